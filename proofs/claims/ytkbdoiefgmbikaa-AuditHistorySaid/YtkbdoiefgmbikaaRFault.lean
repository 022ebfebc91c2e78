/-
  The reference's fault of the other events. Condition: lists of a thousand at most; numbers in their types' ranges.
-/



--- beginning of a walk of fault, for events of kind $1
--- after the entry: the world renamed
--- the answer ($1: its plain word and arguments), hidden
--- the end: the answer is $1, over frame $2

import Derived.Test.YtkbdoiefgmbikaaRFaultG
import Derived.Deep.CutBlock
import Derived.Deep.DeepCutAuto
import Derived.BigRegion
set_option linter.unusedVariables false
namespace Go.Proofs.Ytkbdoiefgmbikaa
open Go.ChangeShapes Go.WideShapes Go.ChangeAt Go.RowKit
theorem wI_none : wI none = -1 := rfl
theorem wI_some (k : Nat) : wI (some k) = (k : Int) := rfl
--- the head of each theorem: name $1, kind $2, word $3
set_option maxHeartbeats 4000000 in
set_option maxRecDepth 100000 in
theorem rfault_F (w : World) (B p ha hs : Nat) (y : Rx) (gv ev av tv : Value) (hh : Rst w B p y gv ev av tv) (e : Ev) (hk : e.kind = 3) (hok : e.Ok) (h1 : ha < 4294967296) (h2 : hs < 4294967296) (hn : y.gs.length ≤ 1000) (hkn : y.ks.length ≤ 1000) (hen : y.en.length ≤ 1000) (hla : y.la ≤ 1000) :
    Calls Try.prog 40 #[.pointer (some ⟨p, 0, none⟩), .agg #[.int .u32 ha, .int .u32 hs], .agg (evl e).toArray] w fun r w' => r = .returned (.int .i64 (faultF y e : Nat)) ∧ Fr [] w w' := by
  obtain ⟨ek, eh, ev', en, ea, es⟩ := e
  dsimp only at hk
  (try subst hk)
  obtain ⟨ga, gc, rfl, hgr⟩ := hh.gr
  obtain ⟨ta, tc, rfl, htr⟩ := hh.tr
  obtain ⟨na, nc, rfl, hnr⟩ := hh.er
  have A0 := (At.new w 27 #[.int .u32 ha, .int .u32 hs]).old (.cells (evl ⟨3, eh, ev', en, ea, es⟩).toArray 41)
  have E0 := At.new (w.alloc (.cells #[.int .u32 ha, .int .u32 hs] 27)) 41 (evl ⟨3, eh, ev', en, ea, es⟩).toArray
  have F0 := (show Fr [] w ((w.alloc (.cells #[.int .u32 ha, .int .u32 hs] 27)).alloc (.cells (evl ⟨3, eh, ev', en, ea, es⟩).toArray 41)) from (by repeat (first | exact Fr.refl _ _ | assumption | refine Fr.trans0 ?_ (by assumption) | refine Fr.drewN ?_ _ | refine Fr.alloc ?_ _ | refine Fr.drew ?_)))
  rw [World.size_alloc] at E0
  have HH := hh.fr0 F0
  have HIR := Lib.hid (show (Try.prog.info? 27).map (·.size) = some 2 by kernel_rfl)
  have HG := hgr.fr0 F0
  have HT := htr.fr0 F0
  have HE := hnr.fr0 F0
  clear hh hgr htr hnr
  obtain ⟨w1, hw1⟩ : ∃ W, (w.alloc (.cells #[.int .u32 ha, .int .u32 hs] 27)).alloc (.cells (evl ⟨3, eh, ev', en, ea, es⟩).toArray 41) = W := ⟨_, rfl⟩
  rw [hw1] at A0 E0 F0 HH HG HT HE
  unfold evl at E0
  dsimp only at E0
  have HP := Lib.hid HH.at_
  have HH := Lib.hid HH
  have HG := Lib.hid HG
  have HT := Lib.hid HT
  have HE := Lib.hid HE
  have F0 := Lib.hid F0
  have r0 := A0.cell 0
  have r1 := A0.cell 1
  have z0 := E0.cell 0
  have z1 := E0.cell 1
  have z3 := E0.cell 3
  have z4 := E0.cell 4
  have z5 := E0.cell 5
  have p0 := HP.out.cell 0
  have p1 := HP.out.cell 1
  have p2 := HP.out.cell 2
  have p3 := HP.out.cell 3
  have p4 := HP.out.cell 4
  have p6 := HP.out.cell 6
  simp only [List.getElem?_toArray, List.getElem?_cons_zero, List.getElem?_cons_succ] at r0 r1 z0 z1 z3 z4 z5 p0 p1 p2 p3 p4 p6
  have A0 := Lib.hid A0
  have E0 := Lib.hid E0
  obtain ⟨F, hF⟩ : ∃ F, faultF y ⟨3, eh, ev', en, ea, es⟩ = F := ⟨_, rfl⟩
  rw [hF]
  have HF := Lib.hid hF
  clear hF
  have CF := Lib.hid (rfind_any w1 B p y _ _ _ _ HH.out ⟨3, eh, ev', en, ea, es⟩ hn)
  cases hfr : findR y.gs ⟨3, eh, ev', en, ea, es⟩ with
  | none =>
    rw [hfr, wI_none] at CF
    have HFR := Lib.hid hfr
    clear hfr
    go_enter Try.func40, Try.ntmps40
    go_upto_region 1 with (fail)
    clear hw1
    go_wp2_with (refine wpList_load_at rfl 41 (.tmp 5) rfl ⟨w.heap.size + 1, 0, none⟩ rfl [.int .i64 3, .int .i64 eh, .int .u32 ev', .int .u64 en, .int .u32 ea, .int .u32 es] _ (E0.out.all _ rfl) Try.underlying41 rfl infoEv ?_)
    refine (CF.out).mono ?_
    rintro e1 w2 ⟨rfl, hf2⟩
    have F2 := Lib.hid (F0.out.trans0 hf2)
    clear hf2
    go_wp2_with fail
    go_ret
    have hF := HF.out
    have hV : F = 5 := by rw [← hF]; exact (by unfold faultF; rw [HFR.out])
    exact ⟨by rw [hV]; rfl, by first | exact (F2.out) | exact ((F2.out)).drew | exact ((F2.out)).drew.drew | exact ((F2.out)).drewN _⟩
  | some i =>
    rw [hfr, wI_some] at CF
    obtain ⟨g, hgi, _⟩ := findR_some hfr
    have hil := (List.getElem?_eq_some_iff.1 hgi).1
    have hv : F = if g.st = 1 then 0 else 5 := by rw [← HF.out]; unfold faultF; rw [hfr]; simp only [stOf_eq hgi]
    have HV := Lib.hid hv
    have hcell : ∃ b off, ga = some ⟨b, off, none⟩ ∧ b < w1.heap.size ∧ w1.cell? ⟨b, off + i * 5 + 3, none⟩ = some (.int .i64 g.st) := by
      rcases HG.out with h0 | ⟨b, off, rfl, hb, hc⟩
      · have : y.gs = [] := by simpa using h0
        rw [this] at hgi; cases hgi
      · exact ⟨b, off, rfl, hb, RowsAt.cell hc (by rw [List.getElem?_map, hgi]; rfl) 3 rfl⟩
    obtain ⟨b, off, rfl, hb, hcell⟩ := hcell
    have HC := Lib.hid hcell
    have hiI : (i : Int) < (y.gs.length : Int) := by omega
    have hi0 : ¬ (i : Int) < 0 := by omega
    have hi1 : decide ((i : Int) < 0) = false := by simp
    obtain ⟨C, hC⟩ : ∃ C, ((g.st : Int) != 1) = C := ⟨_, rfl⟩
    have hC2 : (g.st != 1) = C := by rw [← hC, Bool.eq_iff_iff]; simp only [bne_iff_ne]; omega
    have hv2 : F = if C = true then 5 else 0 := by
      rw [HV.out, ← hC2]
      by_cases h : g.st = 1 <;> simp [h]
    have HV := Lib.hid hv2
    clear hv hv2 hcell hfr hgi hil
    cases C
    · go_enter Try.func40, Try.ntmps40
      go_upto_region 1 with (fail)
      clear hw1
      go_wp2_with (refine wpList_load_at rfl 41 (.tmp 5) rfl ⟨w.heap.size + 1, 0, none⟩ rfl [.int .i64 3, .int .i64 eh, .int .u32 ev', .int .u64 en, .int .u32 ea, .int .u32 es] _ (E0.out.all _ rfl) Try.underlying41 rfl infoEv ?_)
      refine (CF.out).mono ?_
      rintro e1 w2 ⟨rfl, hf2⟩
      have F2 := Lib.hid (F0.out.trans0 hf2)
      have d0 := (HP.out.fr hf2 (by simp)).cell 0
      have d3 := (hf2.cell hb (by simp)).trans HC.out
      simp only [List.getElem?_toArray, List.getElem?_cons_zero] at d0
      clear hf2
      go_wp2_with fail
      go_ret
      have hF := HF.out
      have hV : F = 0 := by rw [← hF]; exact (by rw [hF, HV.out]; rfl)
      exact ⟨by rw [hV]; rfl, by first | exact (F2.out) | exact ((F2.out)).drew | exact ((F2.out)).drew.drew | exact ((F2.out)).drewN _⟩
    · go_enter Try.func40, Try.ntmps40
      go_upto_region 1 with (fail)
      clear hw1
      go_wp2_with (refine wpList_load_at rfl 41 (.tmp 5) rfl ⟨w.heap.size + 1, 0, none⟩ rfl [.int .i64 3, .int .i64 eh, .int .u32 ev', .int .u64 en, .int .u32 ea, .int .u32 es] _ (E0.out.all _ rfl) Try.underlying41 rfl infoEv ?_)
      refine (CF.out).mono ?_
      rintro e1 w2 ⟨rfl, hf2⟩
      have F2 := Lib.hid (F0.out.trans0 hf2)
      have d0 := (HP.out.fr hf2 (by simp)).cell 0
      have d3 := (hf2.cell hb (by simp)).trans HC.out
      simp only [List.getElem?_toArray, List.getElem?_cons_zero] at d0
      clear hf2
      go_wp2_with fail
      go_ret
      have hF := HF.out
      have hV : F = 5 := by rw [← hF]; exact (by rw [hF, HV.out]; rfl)
      exact ⟨by rw [hV]; rfl, by first | exact (F2.out) | exact ((F2.out)).drew | exact ((F2.out)).drew.drew | exact ((F2.out)).drewN _⟩
set_option maxHeartbeats 4000000 in
set_option maxRecDepth 100000 in
theorem rfault_B (w : World) (B p ha hs : Nat) (y : Rx) (gv ev av tv : Value) (hh : Rst w B p y gv ev av tv) (e : Ev) (hk : e.kind = 6) (hok : e.Ok) (h1 : ha < 4294967296) (h2 : hs < 4294967296) (hn : y.gs.length ≤ 1000) (hkn : y.ks.length ≤ 1000) (hen : y.en.length ≤ 1000) (hla : y.la ≤ 1000) :
    Calls Try.prog 40 #[.pointer (some ⟨p, 0, none⟩), .agg #[.int .u32 ha, .int .u32 hs], .agg (evl e).toArray] w fun r w' => r = .returned (.int .i64 (faultB y e : Nat)) ∧ Fr [] w w' := by
  obtain ⟨ek, eh, ev', en, ea, es⟩ := e
  dsimp only at hk
  (try subst hk)
  obtain ⟨ga, gc, rfl, hgr⟩ := hh.gr
  obtain ⟨ta, tc, rfl, htr⟩ := hh.tr
  obtain ⟨na, nc, rfl, hnr⟩ := hh.er
  have A0 := (At.new w 27 #[.int .u32 ha, .int .u32 hs]).old (.cells (evl ⟨6, eh, ev', en, ea, es⟩).toArray 41)
  have E0 := At.new (w.alloc (.cells #[.int .u32 ha, .int .u32 hs] 27)) 41 (evl ⟨6, eh, ev', en, ea, es⟩).toArray
  have F0 := (show Fr [] w ((w.alloc (.cells #[.int .u32 ha, .int .u32 hs] 27)).alloc (.cells (evl ⟨6, eh, ev', en, ea, es⟩).toArray 41)) from (by repeat (first | exact Fr.refl _ _ | assumption | refine Fr.trans0 ?_ (by assumption) | refine Fr.drewN ?_ _ | refine Fr.alloc ?_ _ | refine Fr.drew ?_)))
  rw [World.size_alloc] at E0
  have HH := hh.fr0 F0
  have HIR := Lib.hid (show (Try.prog.info? 27).map (·.size) = some 2 by kernel_rfl)
  have HG := hgr.fr0 F0
  have HT := htr.fr0 F0
  have HE := hnr.fr0 F0
  clear hh hgr htr hnr
  obtain ⟨w1, hw1⟩ : ∃ W, (w.alloc (.cells #[.int .u32 ha, .int .u32 hs] 27)).alloc (.cells (evl ⟨6, eh, ev', en, ea, es⟩).toArray 41) = W := ⟨_, rfl⟩
  rw [hw1] at A0 E0 F0 HH HG HT HE
  unfold evl at E0
  dsimp only at E0
  have HP := Lib.hid HH.at_
  have HH := Lib.hid HH
  have HG := Lib.hid HG
  have HT := Lib.hid HT
  have HE := Lib.hid HE
  have F0 := Lib.hid F0
  have r0 := A0.cell 0
  have r1 := A0.cell 1
  have z0 := E0.cell 0
  have z1 := E0.cell 1
  have z3 := E0.cell 3
  have z4 := E0.cell 4
  have z5 := E0.cell 5
  have p0 := HP.out.cell 0
  have p1 := HP.out.cell 1
  have p2 := HP.out.cell 2
  have p3 := HP.out.cell 3
  have p4 := HP.out.cell 4
  have p6 := HP.out.cell 6
  simp only [List.getElem?_toArray, List.getElem?_cons_zero, List.getElem?_cons_succ] at r0 r1 z0 z1 z3 z4 z5 p0 p1 p2 p3 p4 p6
  have A0 := Lib.hid A0
  have E0 := Lib.hid E0
  obtain ⟨F, hF⟩ : ∃ F, faultB y ⟨6, eh, ev', en, ea, es⟩ = F := ⟨_, rfl⟩
  rw [hF]
  have HF := Lib.hid hF
  clear hF
  have n1 : IntKind.u64.wrap ((y.la : Int) + 1) = (y.la : Int) + 1 := wu (y.la + 1) (by omega)
  obtain ⟨S, hS⟩ : ∃ S, y.sw = S := ⟨_, rfl⟩
  obtain ⟨C, hC⟩ : ∃ C, ((en : Int) != (y.la : Int) + 1) = C := ⟨_, rfl⟩
  have hv : F = if S = true ∨ C = true then 4 else 0 := by
    rw [← HF.out]
    unfold faultB
    rw [hS]
    have : (en ≠ y.la + 1) ↔ C = true := by rw [← hC]; simp only [bne_iff_ne]; omega
    simp only [this]
  have HV := Lib.hid hv
  rw [hS] at p1
  clear hv hS
  cases S
  · cases C
    · go_enter Try.func40, Try.ntmps40
      go_upto_region 1 with (fail)
      clear hw1
      go_wp2_with fail
      (try go_region)
      go_wp2_with fail
      go_ret
      have hF := HF.out
      have hV : F = 0 := by rw [← hF]; exact (by rw [hF, HV.out]; try simp)
      exact ⟨by rw [hV]; rfl, by first | exact (F0.out) | exact ((F0.out)).drew | exact ((F0.out)).drew.drew | exact ((F0.out)).drewN _⟩
    · go_enter Try.func40, Try.ntmps40
      go_upto_region 1 with (fail)
      clear hw1
      go_wp2_with fail
      (try go_region)
      go_wp2_with fail
      go_ret
      have hF := HF.out
      have hV : F = 4 := by rw [← hF]; exact (by rw [hF, HV.out]; try simp)
      exact ⟨by rw [hV]; rfl, by first | exact (F0.out) | exact ((F0.out)).drew | exact ((F0.out)).drew.drew | exact ((F0.out)).drewN _⟩
  · go_enter Try.func40, Try.ntmps40
    go_upto_region 1 with (fail)
    clear hw1
    go_wp2_with fail
    (try go_region)
    go_wp2_with fail
    go_ret
    have hF := HF.out
    have hV : F = 4 := by rw [← hF]; exact (by rw [hF, HV.out]; try simp)
    exact ⟨by rw [hV]; rfl, by first | exact (F0.out) | exact ((F0.out)).drew | exact ((F0.out)).drew.drew | exact ((F0.out)).drewN _⟩
--- the look at a grant's place in region 21, behind the call
--- region 21's first look
set_option maxHeartbeats 4000000 in
set_option maxRecDepth 100000 in
theorem rfault_L (w : World) (B p ha hs : Nat) (y : Rx) (gv ev av tv : Value) (hh : Rst w B p y gv ev av tv) (e : Ev) (hk : e.kind = 4) (hok : e.Ok) (h1 : ha < 4294967296) (h2 : hs < 4294967296) (hn : y.gs.length ≤ 1000) (hkn : y.ks.length ≤ 1000) (hen : y.en.length ≤ 1000) (hla : y.la ≤ 1000) :
    Calls Try.prog 40 #[.pointer (some ⟨p, 0, none⟩), .agg #[.int .u32 ha, .int .u32 hs], .agg (evl e).toArray] w fun r w' => r = .returned (.int .i64 (faultL y e : Nat)) ∧ Fr [] w w' := by
  obtain ⟨ek, eh, ev', en, ea, es⟩ := e
  dsimp only at hk
  (try subst hk)
  obtain ⟨ga, gc, rfl, hgr⟩ := hh.gr
  obtain ⟨ta, tc, rfl, htr⟩ := hh.tr
  obtain ⟨na, nc, rfl, hnr⟩ := hh.er
  have A0 := (At.new w 27 #[.int .u32 ha, .int .u32 hs]).old (.cells (evl ⟨4, eh, ev', en, ea, es⟩).toArray 41)
  have E0 := At.new (w.alloc (.cells #[.int .u32 ha, .int .u32 hs] 27)) 41 (evl ⟨4, eh, ev', en, ea, es⟩).toArray
  have F0 := (show Fr [] w ((w.alloc (.cells #[.int .u32 ha, .int .u32 hs] 27)).alloc (.cells (evl ⟨4, eh, ev', en, ea, es⟩).toArray 41)) from (by repeat (first | exact Fr.refl _ _ | assumption | refine Fr.trans0 ?_ (by assumption) | refine Fr.drewN ?_ _ | refine Fr.alloc ?_ _ | refine Fr.drew ?_)))
  rw [World.size_alloc] at E0
  have HH := hh.fr0 F0
  have HIR := Lib.hid (show (Try.prog.info? 27).map (·.size) = some 2 by kernel_rfl)
  have HG := hgr.fr0 F0
  have HT := htr.fr0 F0
  have HE := hnr.fr0 F0
  clear hh hgr htr hnr
  obtain ⟨w1, hw1⟩ : ∃ W, (w.alloc (.cells #[.int .u32 ha, .int .u32 hs] 27)).alloc (.cells (evl ⟨4, eh, ev', en, ea, es⟩).toArray 41) = W := ⟨_, rfl⟩
  rw [hw1] at A0 E0 F0 HH HG HT HE
  unfold evl at E0
  dsimp only at E0
  have HP := Lib.hid HH.at_
  have HH := Lib.hid HH
  have HG := Lib.hid HG
  have HT := Lib.hid HT
  have HE := Lib.hid HE
  have F0 := Lib.hid F0
  have r0 := A0.cell 0
  have r1 := A0.cell 1
  have z0 := E0.cell 0
  have z1 := E0.cell 1
  have z3 := E0.cell 3
  have z4 := E0.cell 4
  have z5 := E0.cell 5
  have p0 := HP.out.cell 0
  have p1 := HP.out.cell 1
  have p2 := HP.out.cell 2
  have p3 := HP.out.cell 3
  have p4 := HP.out.cell 4
  have p6 := HP.out.cell 6
  simp only [List.getElem?_toArray, List.getElem?_cons_zero, List.getElem?_cons_succ] at r0 r1 z0 z1 z3 z4 z5 p0 p1 p2 p3 p4 p6
  have A0 := Lib.hid A0
  have E0 := Lib.hid E0
  obtain ⟨F, hF⟩ : ∃ F, faultL y ⟨4, eh, ev', en, ea, es⟩ = F := ⟨_, rfl⟩
  rw [hF]
  have HF := Lib.hid hF
  clear hF
  have CF := Lib.hid (rfind_any w1 B p y _ _ _ _ HH.out ⟨4, eh, ev', en, ea, es⟩ hn)
  obtain ⟨S, hS⟩ : ∃ S, y.sw = S := ⟨_, rfl⟩
  have HP := HP.out
  rw [hS] at HP p1
  have HP := Lib.hid HP
  have HSW := Lib.hid hS
  clear hS
  cases hfr : findR y.gs ⟨4, eh, ev', en, ea, es⟩ with
  | none =>
    rw [hfr, wI_none] at CF
    have hv : F = 8 := by rw [← HF.out]; unfold faultL; rw [hfr]
    have HV := Lib.hid hv
    clear hfr hv
    cases S
    · skip
      go_enter Try.func40, Try.ntmps40
      go_upto_region 1 with (fail)
      clear hw1
      go_wp2_with (refine wpList_load_at rfl 41 (.tmp 5) rfl ⟨w.heap.size + 1, 0, none⟩ rfl [.int .i64 4, .int .i64 eh, .int .u32 ev', .int .u64 en, .int .u32 ea, .int .u32 es] _ (E0.out.all _ rfl) Try.underlying41 rfl infoEv ?_)
      refine (CF.out).mono ?_
      rintro e1 w2 ⟨rfl, hf2⟩
      have F2 := Lib.hid (F0.out.trans0 hf2)
      have d0 := (HP.out.fr hf2 (by simp)).cell 0
      have d1 := (HP.out.fr hf2 (by simp)).cell 1
      have d9 := (HP.out.fr hf2 (by simp)).cell 3
      simp only [List.getElem?_toArray, List.getElem?_cons_zero, List.getElem?_cons_succ] at d0 d1 d9
      clear hf2
      go_wp2_with fail
      (try go_region)
      go_wp2_with fail
      go_ret
      have hF := HF.out
      have hV : F = 8 := by rw [← hF]; exact (by rw [hF, HV.out]; try simp)
      exact ⟨by rw [hV]; rfl, by first | exact (F2.out) | exact ((F2.out)).drew | exact ((F2.out)).drew.drew | exact ((F2.out)).drewN _⟩
    · skip
      go_enter Try.func40, Try.ntmps40
      go_upto_region 1 with (fail)
      clear hw1
      go_wp2_with (refine wpList_load_at rfl 41 (.tmp 5) rfl ⟨w.heap.size + 1, 0, none⟩ rfl [.int .i64 4, .int .i64 eh, .int .u32 ev', .int .u64 en, .int .u32 ea, .int .u32 es] _ (E0.out.all _ rfl) Try.underlying41 rfl infoEv ?_)
      refine (CF.out).mono ?_
      rintro e1 w2 ⟨rfl, hf2⟩
      have F2 := Lib.hid (F0.out.trans0 hf2)
      have d0 := (HP.out.fr hf2 (by simp)).cell 0
      have d1 := (HP.out.fr hf2 (by simp)).cell 1
      have d9 := (HP.out.fr hf2 (by simp)).cell 3
      simp only [List.getElem?_toArray, List.getElem?_cons_zero, List.getElem?_cons_succ] at d0 d1 d9
      clear hf2
      go_wp2_with fail
      (try go_region)
      go_wp2_with fail
      go_ret
      have hF := HF.out
      have hV : F = 8 := by rw [← hF]; exact (by rw [hF, HV.out]; try simp)
      exact ⟨by rw [hV]; rfl, by first | exact (F2.out) | exact ((F2.out)).drew | exact ((F2.out)).drew.drew | exact ((F2.out)).drewN _⟩
  | some i =>
    rw [hfr, wI_some] at CF
    obtain ⟨g, hgi, _⟩ := findR_some hfr
    have hil := (List.getElem?_eq_some_iff.1 hgi).1
    have hv : F = if S = true ∧ g.st = 2 ∧ g.fr ≤ y.be then 0 else 8 := by rw [← HF.out]; unfold faultL; rw [hfr, HSW.out]; simp only [stOf_eq hgi, frOf_eq hgi]
    have HV := Lib.hid hv
    have hcell : ∃ b off, ga = some ⟨b, off, none⟩ ∧ b < w1.heap.size ∧ w1.cell? ⟨b, off + i * 5 + 3, none⟩ = some (.int .i64 g.st) ∧ w1.cell? ⟨b, off + i * 5 + 4, none⟩ = some (.int .i64 g.fr) := by
      rcases HG.out with h0 | ⟨b, off, rfl, hb, hc⟩
      · have : y.gs = [] := by simpa using h0
        rw [this] at hgi; cases hgi
      · exact ⟨b, off, rfl, hb, RowsAt.cell hc (by rw [List.getElem?_map, hgi]; rfl) 3 rfl, RowsAt.cell hc (by rw [List.getElem?_map, hgi]; rfl) 4 rfl⟩
    obtain ⟨b, off, rfl, hb, hcell, hcell4⟩ := hcell
    have HC := Lib.hid hcell
    have HC4 := Lib.hid hcell4
    have hiI : (i : Int) < (y.gs.length : Int) := by omega
    have hi0 : ¬ (i : Int) < 0 := by omega
    have hi1 : decide ((i : Int) < 0) = false := by simp
    obtain ⟨C, hC⟩ : ∃ C, ((g.st : Int) != 2) = C := ⟨_, rfl⟩
    have hC2 : (g.st != 2) = C := by rw [← hC, Bool.eq_iff_iff]; simp only [bne_iff_ne]; omega
    obtain ⟨D, hD⟩ : ∃ D, decide ((y.be : Int) < (g.fr : Int)) = D := ⟨_, rfl⟩
    have hD2 : decide (y.be < g.fr) = D := by rw [← hD, decide_eq_decide]; omega
    have hv2 : F = if S = true ∧ C = false ∧ D = false then 0 else 8 := by
      rw [HV.out, ← hC2, ← hD2]
      have e1 : (g.st != 2) = false ↔ g.st = 2 := by simp
      have e2 : decide (y.be < g.fr) = false ↔ g.fr ≤ y.be := by simp
      simp only [e1, e2]
    have HV := Lib.hid hv2
    clear hv hv2 hcell hcell4 hfr hgi hil
    cases S
    · skip
      go_enter Try.func40, Try.ntmps40
      go_upto_region 1 with (fail)
      clear hw1
      go_wp2_with (refine wpList_load_at rfl 41 (.tmp 5) rfl ⟨w.heap.size + 1, 0, none⟩ rfl [.int .i64 4, .int .i64 eh, .int .u32 ev', .int .u64 en, .int .u32 ea, .int .u32 es] _ (E0.out.all _ rfl) Try.underlying41 rfl infoEv ?_)
      refine (CF.out).mono ?_
      rintro e1 w2 ⟨rfl, hf2⟩
      have F2 := Lib.hid (F0.out.trans0 hf2)
      have d0 := (HP.out.fr hf2 (by simp)).cell 0
      have d1 := (HP.out.fr hf2 (by simp)).cell 1
      have d9 := (HP.out.fr hf2 (by simp)).cell 3
      simp only [List.getElem?_toArray, List.getElem?_cons_zero, List.getElem?_cons_succ] at d0 d1 d9
      clear hf2
      go_wp2_with fail
      (try go_region)
      go_wp2_with fail
      go_ret
      have hF := HF.out
      have hV : F = 8 := by rw [← hF]; exact (by rw [hF, HV.out]; try simp)
      exact ⟨by rw [hV]; rfl, by first | exact (F2.out) | exact ((F2.out)).drew | exact ((F2.out)).drew.drew | exact ((F2.out)).drewN _⟩
    · cases C
      · skip
        go_enter Try.func40, Try.ntmps40
        go_upto_region 1 with (fail)
        clear hw1
        go_wp2_with (refine wpList_load_at rfl 41 (.tmp 5) rfl ⟨w.heap.size + 1, 0, none⟩ rfl [.int .i64 4, .int .i64 eh, .int .u32 ev', .int .u64 en, .int .u32 ea, .int .u32 es] _ (E0.out.all _ rfl) Try.underlying41 rfl infoEv ?_)
        refine (CF.out).mono ?_
        rintro e1 w2 ⟨rfl, hf2⟩
        have F2 := Lib.hid (F0.out.trans0 hf2)
        have d0 := (HP.out.fr hf2 (by simp)).cell 0
        have d1 := (HP.out.fr hf2 (by simp)).cell 1
        have d9 := (HP.out.fr hf2 (by simp)).cell 3
        simp only [List.getElem?_toArray, List.getElem?_cons_zero, List.getElem?_cons_succ] at d0 d1 d9
        have d3 := (hf2.cell hb (by simp)).trans HC.out
        have d4 := (hf2.cell hb (by simp)).trans HC4.out
        have hb2 := Nat.lt_of_lt_of_le hb hf2.size
        have HP2 := Lib.hid (HP.out.fr hf2 (by simp))
        have HD0 := Lib.hid d0
        have HD1 := Lib.hid d1
        have HD9 := Lib.hid d9
        have HD3 := Lib.hid d3
        have HD4 := Lib.hid d4
        clear hf2
        have hpl2 := HP2.out.lt
        go_upto_region 21 with (fail)
        refine wp_region_L (fun W => Fr [] w2 W) [] (by kernel_rfl) (Fr.refl _ _).drew (fun hHeld => ?_)
        clear d0 d1 d9 d3 d4
        refine wpAnyL_take (i := 0) (v := ?_) rfl (by kernel_rfl) (fun _ _ _ h => h) (Or.inl ⟨by rfl, ?_⟩) (by assumption) ?_; rotate_left; (focus (intro w hSw; skip; go_simp; (try with_reducible rfl))); (try (refine wpAnyL_norm (by simp only [Act.put, List.setIfInBounds_toArray, List.set_cons_zero, List.set_cons_succ]; rfl) ?_))
        refine wpAnyL_take (i := 1) (v := ?_) rfl (by kernel_rfl) (fun _ _ _ h => h) (Or.inl ⟨by rfl, ?_⟩) (by assumption) ?_; rotate_left; (focus (intro w hSw; skip; go_simp; (try with_reducible rfl))); (try (refine wpAnyL_norm (by simp only [Act.put, List.setIfInBounds_toArray, List.set_cons_zero, List.set_cons_succ]; rfl) ?_))
        refine wpAnyL_take (i := 2) (v := ?_) rfl (by kernel_rfl) (fun _ _ _ h => h) (Or.inl ⟨by rfl, ?_⟩) (by assumption) ?_; rotate_left; (focus (intro w hSw; skip; go_simp; (try with_reducible rfl))); (try (refine wpAnyL_norm (by simp only [Act.put, List.setIfInBounds_toArray, List.set_cons_zero, List.set_cons_succ]; rfl) ?_))
        refine wpAnyL_take (i := 3) (v := ?_) rfl (by kernel_rfl) (fun _ _ _ h => h) (Or.inl ⟨by rfl, ?_⟩) (by assumption) ?_; rotate_left; (focus (intro w hSw; (have c := (hSw.cell hpl2 (by simp)).trans HD1.out); go_simp; (try with_reducible rfl))); (try (refine wpAnyL_norm (by simp only [Act.put, List.setIfInBounds_toArray, List.set_cons_zero, List.set_cons_succ]; rfl) ?_))
        refine wpAnyL_take (i := 4) (v := ?_) rfl (by kernel_rfl) (fun _ _ _ h => h) (Or.inl ⟨by rfl, ?_⟩) (by assumption) ?_; rotate_left; (focus (intro w hSw; skip; go_simp; (try with_reducible rfl))); (try (refine wpAnyL_norm (by simp only [Act.put, List.setIfInBounds_toArray, List.set_cons_zero, List.set_cons_succ]; rfl) ?_))
        refine wpAnyL_take (i := 5) (v := ?_) rfl (by kernel_rfl) (fun _ _ _ h => h) (Or.inl ⟨by rfl, ?_⟩) (by assumption) ?_; rotate_left; (focus (intro w hSw; skip; go_simp; (try with_reducible rfl))); (try (refine wpAnyL_norm (by simp only [Act.put, List.setIfInBounds_toArray, List.set_cons_zero, List.set_cons_succ]; rfl) ?_))
        refine wpAnyL_take (i := 6) (v := ?_) rfl (by kernel_rfl) (fun _ _ _ h => h) (Or.inl ⟨by rfl, ?_⟩) (by assumption) ?_; rotate_left; (focus (intro w hSw; skip; go_simp; (try with_reducible rfl))); (try (refine wpAnyL_norm (by simp only [Act.put, List.setIfInBounds_toArray, List.set_cons_zero, List.set_cons_succ]; rfl) ?_))
        refine wpAnyL_take (i := 7) (v := ?_) rfl (by kernel_rfl) (fun _ _ _ h => h) (Or.inl ⟨by rfl, ?_⟩) (by assumption) ?_; rotate_left; (focus (intro w hSw; skip; go_simp; (try with_reducible rfl))); (try (refine wpAnyL_norm (by simp only [Act.put, List.setIfInBounds_toArray, List.set_cons_zero, List.set_cons_succ]; rfl) ?_))
        refine wpAnyL_take (i := 8) (v := ?_) rfl (by kernel_rfl) (fun _ _ _ h => h) (Or.inl ⟨by rfl, ?_⟩) (by assumption) ?_; rotate_left; (focus (intro w hSw; skip; go_simp; (try with_reducible rfl))); (try (refine wpAnyL_norm (by simp only [Act.put, List.setIfInBounds_toArray, List.set_cons_zero, List.set_cons_succ]; rfl) ?_))
        refine wpAnyL_take (i := 9) (v := ?_) rfl (by kernel_rfl) (fun _ _ _ h => h) (Or.inl ⟨by rfl, ?_⟩) (by assumption) ?_; rotate_left; (focus (intro w hSw; skip; go_simp; (try with_reducible rfl))); (try (refine wpAnyL_norm (by simp only [Act.put, List.setIfInBounds_toArray, List.set_cons_zero, List.set_cons_succ]; rfl) ?_))
        refine wpAnyL_take (i := 10) (v := ?_) rfl (by kernel_rfl) (fun _ _ _ h => h) (Or.inl ⟨by rfl, ?_⟩) (by assumption) ?_; rotate_left; (focus (intro w hSw; skip; go_simp; (try with_reducible rfl))); (try (refine wpAnyL_norm (by simp only [Act.put, List.setIfInBounds_toArray, List.set_cons_zero, List.set_cons_succ]; rfl) ?_))
        refine wpAnyL_take (i := 11) (v := ?_) rfl (by kernel_rfl) (fun _ _ _ h => h) (Or.inl ⟨by rfl, ?_⟩) (by assumption) ?_; rotate_left; (focus (intro w hSw; skip; go_simp; (try with_reducible rfl))); (try (refine wpAnyL_norm (by simp only [Act.put, List.setIfInBounds_toArray, List.set_cons_zero, List.set_cons_succ]; rfl) ?_))
        refine wpAnyL_take (i := 12) (v := ?_) rfl (by kernel_rfl) (fun _ _ _ h => h) (Or.inl ⟨by rfl, ?_⟩) (by assumption) ?_; rotate_left; (focus (intro w hSw; skip; go_simp; (try with_reducible rfl))); (try (refine wpAnyL_norm (by simp only [Act.put, List.setIfInBounds_toArray, List.set_cons_zero, List.set_cons_succ]; rfl) ?_))
        refine wpAnyL_take (i := 13) (v := ?_) rfl (by kernel_rfl) (fun _ _ _ h => h) (Or.inl ⟨by rfl, ?_⟩) (by assumption) ?_; rotate_left; (focus (intro w hSw; (have c := (hSw.cell hpl2 (by simp)).trans HD0.out); go_simp; (try with_reducible rfl))); (try (refine wpAnyL_norm (by simp only [Act.put, List.setIfInBounds_toArray, List.set_cons_zero, List.set_cons_succ]; rfl) ?_))
        refine wpAnyL_take (i := 14) (v := ?_) rfl (by kernel_rfl) (fun _ _ _ h => h) (Or.inl ⟨by rfl, ?_⟩) (by assumption) ?_; rotate_left; (focus (intro w hSw; skip; go_simp; (try with_reducible rfl))); (try (refine wpAnyL_norm (by simp only [Act.put, List.setIfInBounds_toArray, List.set_cons_zero, List.set_cons_succ]; rfl) ?_))
        refine wpAnyL_take (i := 15) (v := ?_) rfl (by kernel_rfl) (fun _ _ _ h => h) (Or.inl ⟨by rfl, ?_⟩) (by assumption) ?_; rotate_left; (focus (intro w hSw; skip; go_simp; (try with_reducible rfl))); (try (refine wpAnyL_norm (by simp only [Act.put, List.setIfInBounds_toArray, List.set_cons_zero, List.set_cons_succ]; rfl) ?_))
        refine wpAnyL_take (i := 16) (v := ?_) rfl (by kernel_rfl) (fun _ _ _ h => h) (Or.inl ⟨by rfl, ?_⟩) (by assumption) ?_; rotate_left; (focus (intro w hSw; skip; go_simp; (try with_reducible rfl))); (try (refine wpAnyL_norm (by simp only [Act.put, List.setIfInBounds_toArray, List.set_cons_zero, List.set_cons_succ]; rfl) ?_))
        refine wpAnyL_take (i := 17) (v := ?_) rfl (by kernel_rfl) (fun _ _ _ h => h) (Or.inl ⟨by rfl, ?_⟩) (by assumption) ?_; rotate_left; (focus (intro w hSw; (have c := (hSw.cell hb2 (by simp)).trans HD3.out); go_simp; (try with_reducible rfl))); (try (refine wpAnyL_norm (by simp only [Act.put, List.setIfInBounds_toArray, List.set_cons_zero, List.set_cons_succ]; rfl) ?_))
        refine wpAnyL_take (i := 18) (v := ?_) rfl (by kernel_rfl) (fun _ _ _ h => h) (Or.inl ⟨by rfl, ?_⟩) (by assumption) ?_; rotate_left; (focus (intro w hSw; skip; go_simp; (try with_reducible rfl))); (try (refine wpAnyL_norm (by simp only [Act.put, List.setIfInBounds_toArray, List.set_cons_zero, List.set_cons_succ]; rfl) ?_))
        refine wpAnyL_take (i := 19) (v := ?_) rfl (by kernel_rfl) (fun _ _ _ h => h) (Or.inl ⟨by rfl, ?_⟩) (by assumption) ?_; rotate_left; (focus (intro w hSw; skip; go_simp; (try with_reducible rfl))); (try (refine wpAnyL_norm (by simp only [Act.put, List.setIfInBounds_toArray, List.set_cons_zero, List.set_cons_succ]; rfl) ?_))
        refine wpAnyL_take (i := 20) (v := ?_) rfl (by kernel_rfl) (fun _ _ _ h => h) (Or.inl ⟨by rfl, ?_⟩) (by assumption) ?_; rotate_left; (focus (intro w hSw; skip; go_simp; (try with_reducible rfl))); (try (refine wpAnyL_norm (by simp only [Act.put, List.setIfInBounds_toArray, List.set_cons_zero, List.set_cons_succ]; rfl) ?_))
        refine wpAnyL_take (i := 21) (v := ?_) rfl (by kernel_rfl) (fun _ _ _ h => h) (Or.inl ⟨by rfl, ?_⟩) (by assumption) ?_; rotate_left; (focus (intro w hSw; skip; go_simp; (try with_reducible rfl))); (try (refine wpAnyL_norm (by simp only [Act.put, List.setIfInBounds_toArray, List.set_cons_zero, List.set_cons_succ]; rfl) ?_))
        refine wpAnyL_take (i := 22) (v := ?_) rfl (by kernel_rfl) (fun _ _ _ h => h) (Or.inl ⟨by rfl, ?_⟩) (by assumption) ?_; rotate_left; (focus (intro w hSw; skip; go_simp; (try with_reducible rfl))); (try (refine wpAnyL_norm (by simp only [Act.put, List.setIfInBounds_toArray, List.set_cons_zero, List.set_cons_succ]; rfl) ?_))
        refine wpAnyL_take (i := 23) (v := ?_) rfl (by kernel_rfl) (fun _ _ _ h => h) (Or.inl ⟨by rfl, ?_⟩) (by assumption) ?_; rotate_left; (focus (intro w hSw; skip; go_simp; (try with_reducible rfl))); (try (refine wpAnyL_norm (by simp only [Act.put, List.setIfInBounds_toArray, List.set_cons_zero, List.set_cons_succ]; rfl) ?_))
        refine wpAnyL_take (i := 24) (v := ?_) rfl (by kernel_rfl) (fun _ _ _ h => h) (Or.inl ⟨by rfl, ?_⟩) (by assumption) ?_; rotate_left; (focus (intro w hSw; (have c := (hSw.cell hpl2 (by simp)).trans HD0.out); go_simp; (try with_reducible rfl))); (try (refine wpAnyL_norm (by simp only [Act.put, List.setIfInBounds_toArray, List.set_cons_zero, List.set_cons_succ]; rfl) ?_))
        refine wpAnyL_take (i := 25) (v := ?_) rfl (by kernel_rfl) (fun _ _ _ h => h) (Or.inl ⟨by rfl, ?_⟩) (by assumption) ?_; rotate_left; (focus (intro w hSw; skip; go_simp; (try with_reducible rfl))); (try (refine wpAnyL_norm (by simp only [Act.put, List.setIfInBounds_toArray, List.set_cons_zero, List.set_cons_succ]; rfl) ?_))
        refine wpAnyL_take (i := 26) (v := ?_) rfl (by kernel_rfl) (fun _ _ _ h => h) (Or.inl ⟨by rfl, ?_⟩) (by assumption) ?_; rotate_left; (focus (intro w hSw; skip; go_simp; (try with_reducible rfl))); (try (refine wpAnyL_norm (by simp only [Act.put, List.setIfInBounds_toArray, List.set_cons_zero, List.set_cons_succ]; rfl) ?_))
        refine wpAnyL_take (i := 27) (v := ?_) rfl (by kernel_rfl) (fun _ _ _ h => h) (Or.inl ⟨by rfl, ?_⟩) (by assumption) ?_; rotate_left; (focus (intro w hSw; skip; go_simp; (try with_reducible rfl))); (try (refine wpAnyL_norm (by simp only [Act.put, List.setIfInBounds_toArray, List.set_cons_zero, List.set_cons_succ]; rfl) ?_))
        refine wpAnyL_take (i := 28) (v := ?_) rfl (by kernel_rfl) (fun _ _ _ h => h) (Or.inl ⟨by rfl, ?_⟩) (by assumption) ?_; rotate_left; (focus (intro w hSw; (have c := (hSw.cell hb2 (by simp)).trans HD4.out); go_simp; (try with_reducible rfl))); (try (refine wpAnyL_norm (by simp only [Act.put, List.setIfInBounds_toArray, List.set_cons_zero, List.set_cons_succ]; rfl) ?_))
        refine wpAnyL_take (i := 29) (v := ?_) rfl (by kernel_rfl) (fun _ _ _ h => h) (Or.inl ⟨by rfl, ?_⟩) (by assumption) ?_; rotate_left; (focus (intro w hSw; skip; go_simp; (try with_reducible rfl))); (try (refine wpAnyL_norm (by simp only [Act.put, List.setIfInBounds_toArray, List.set_cons_zero, List.set_cons_succ]; rfl) ?_))
        refine wpAnyL_take (i := 30) (v := ?_) rfl (by kernel_rfl) (fun _ _ _ h => h) (Or.inl ⟨by rfl, ?_⟩) (by assumption) ?_; rotate_left; (focus (intro w hSw; skip; go_simp; (try with_reducible rfl))); (try (refine wpAnyL_norm (by simp only [Act.put, List.setIfInBounds_toArray, List.set_cons_zero, List.set_cons_succ]; rfl) ?_))
        refine wpAnyL_take (i := 31) (v := ?_) rfl (by kernel_rfl) (fun _ _ _ h => h) (Or.inl ⟨by rfl, ?_⟩) (by assumption) ?_; rotate_left; (focus (intro w hSw; skip; go_simp; (try with_reducible rfl))); (try (refine wpAnyL_norm (by simp only [Act.put, List.setIfInBounds_toArray, List.set_cons_zero, List.set_cons_succ]; rfl) ?_))
        refine wpAnyL_take (i := 32) (v := ?_) rfl (by kernel_rfl) (fun _ _ _ h => h) (Or.inl ⟨by rfl, ?_⟩) (by assumption) ?_; rotate_left; (focus (intro w hSw; (have c := (hSw.cell hpl2 (by simp)).trans HD9.out); go_simp; (try with_reducible rfl))); (try (refine wpAnyL_norm (by simp only [Act.put, List.setIfInBounds_toArray, List.set_cons_zero, List.set_cons_succ]; rfl) ?_))
        refine wpAnyL_take (i := 33) (v := ?_) rfl (by kernel_rfl) (fun _ _ _ h => h) (Or.inl ⟨by rfl, ?_⟩) (by assumption) ?_; rotate_left; (focus (intro w hSw; skip; go_simp; (try with_reducible rfl))); (try (refine wpAnyL_norm (by simp only [Act.put, List.setIfInBounds_toArray, List.set_cons_zero, List.set_cons_succ]; rfl) ?_))
        refine wpAnyL_take (i := 34) (v := ?_) rfl (by kernel_rfl) (fun _ _ _ h => h) (Or.inl ⟨by rfl, ?_⟩) (by assumption) ?_; rotate_left; (focus (intro w hSw; skip; go_simp; (try with_reducible rfl))); (try (refine wpAnyL_norm (by simp only [Act.put, List.setIfInBounds_toArray, List.set_cons_zero, List.set_cons_succ]; rfl) ?_))
        refine wpAnyL_done (by kernel_rfl) ?_ _
        have F3 := Lib.hid (F2.out.trans0 hHeld)
        cases D
        · have hD3 : ¬ (y.be : Int) < (g.fr : Int) := by simpa using hD
          have hD4 : ¬ y.be < g.fr := by simpa using hD2
          go_wp2_with fail
          go_ret
          have hF := HF.out
          have hV : F = 0 := by rw [← hF]; exact (by rw [hF, HV.out]; try simp)
          exact ⟨by rw [hV]; rfl, by first | exact (F3.out) | exact ((F3.out)).drew | exact ((F3.out)).drew.drew | exact ((F3.out)).drewN _⟩
        · have hD3 : (y.be : Int) < (g.fr : Int) := by simpa using hD
          have hD4 : y.be < g.fr := by simpa using hD2
          go_wp2_with fail
          go_ret
          have hF := HF.out
          have hV : F = 8 := by rw [← hF]; exact (by rw [hF, HV.out]; try simp)
          exact ⟨by rw [hV]; rfl, by first | exact (F3.out) | exact ((F3.out)).drew | exact ((F3.out)).drew.drew | exact ((F3.out)).drewN _⟩
      · skip
        go_enter Try.func40, Try.ntmps40
        go_upto_region 1 with (fail)
        clear hw1
        go_wp2_with (refine wpList_load_at rfl 41 (.tmp 5) rfl ⟨w.heap.size + 1, 0, none⟩ rfl [.int .i64 4, .int .i64 eh, .int .u32 ev', .int .u64 en, .int .u32 ea, .int .u32 es] _ (E0.out.all _ rfl) Try.underlying41 rfl infoEv ?_)
        refine (CF.out).mono ?_
        rintro e1 w2 ⟨rfl, hf2⟩
        have F2 := Lib.hid (F0.out.trans0 hf2)
        have d0 := (HP.out.fr hf2 (by simp)).cell 0
        have d1 := (HP.out.fr hf2 (by simp)).cell 1
        have d9 := (HP.out.fr hf2 (by simp)).cell 3
        simp only [List.getElem?_toArray, List.getElem?_cons_zero, List.getElem?_cons_succ] at d0 d1 d9
        have d3 := (hf2.cell hb (by simp)).trans HC.out
        have d4 := (hf2.cell hb (by simp)).trans HC4.out
        have hb2 := Nat.lt_of_lt_of_le hb hf2.size
        have HP2 := Lib.hid (HP.out.fr hf2 (by simp))
        have HD0 := Lib.hid d0
        have HD1 := Lib.hid d1
        have HD9 := Lib.hid d9
        have HD3 := Lib.hid d3
        have HD4 := Lib.hid d4
        clear hf2
        have hpl2 := HP2.out.lt
        go_upto_region 21 with (fail)
        refine wp_region_L (fun W => Fr [] w2 W) [] (by kernel_rfl) (Fr.refl _ _).drew (fun hHeld => ?_)
        clear d0 d1 d9 d3 d4
        refine wpAnyL_take (i := 0) (v := ?_) rfl (by kernel_rfl) (fun _ _ _ h => h) (Or.inl ⟨by rfl, ?_⟩) (by assumption) ?_; rotate_left; (focus (intro w hSw; skip; go_simp; (try with_reducible rfl))); (try (refine wpAnyL_norm (by simp only [Act.put, List.setIfInBounds_toArray, List.set_cons_zero, List.set_cons_succ]; rfl) ?_))
        refine wpAnyL_take (i := 1) (v := ?_) rfl (by kernel_rfl) (fun _ _ _ h => h) (Or.inl ⟨by rfl, ?_⟩) (by assumption) ?_; rotate_left; (focus (intro w hSw; skip; go_simp; (try with_reducible rfl))); (try (refine wpAnyL_norm (by simp only [Act.put, List.setIfInBounds_toArray, List.set_cons_zero, List.set_cons_succ]; rfl) ?_))
        refine wpAnyL_take (i := 2) (v := ?_) rfl (by kernel_rfl) (fun _ _ _ h => h) (Or.inl ⟨by rfl, ?_⟩) (by assumption) ?_; rotate_left; (focus (intro w hSw; skip; go_simp; (try with_reducible rfl))); (try (refine wpAnyL_norm (by simp only [Act.put, List.setIfInBounds_toArray, List.set_cons_zero, List.set_cons_succ]; rfl) ?_))
        refine wpAnyL_take (i := 3) (v := ?_) rfl (by kernel_rfl) (fun _ _ _ h => h) (Or.inl ⟨by rfl, ?_⟩) (by assumption) ?_; rotate_left; (focus (intro w hSw; (have c := (hSw.cell hpl2 (by simp)).trans HD1.out); go_simp; (try with_reducible rfl))); (try (refine wpAnyL_norm (by simp only [Act.put, List.setIfInBounds_toArray, List.set_cons_zero, List.set_cons_succ]; rfl) ?_))
        refine wpAnyL_take (i := 4) (v := ?_) rfl (by kernel_rfl) (fun _ _ _ h => h) (Or.inl ⟨by rfl, ?_⟩) (by assumption) ?_; rotate_left; (focus (intro w hSw; skip; go_simp; (try with_reducible rfl))); (try (refine wpAnyL_norm (by simp only [Act.put, List.setIfInBounds_toArray, List.set_cons_zero, List.set_cons_succ]; rfl) ?_))
        refine wpAnyL_take (i := 5) (v := ?_) rfl (by kernel_rfl) (fun _ _ _ h => h) (Or.inl ⟨by rfl, ?_⟩) (by assumption) ?_; rotate_left; (focus (intro w hSw; skip; go_simp; (try with_reducible rfl))); (try (refine wpAnyL_norm (by simp only [Act.put, List.setIfInBounds_toArray, List.set_cons_zero, List.set_cons_succ]; rfl) ?_))
        refine wpAnyL_take (i := 6) (v := ?_) rfl (by kernel_rfl) (fun _ _ _ h => h) (Or.inl ⟨by rfl, ?_⟩) (by assumption) ?_; rotate_left; (focus (intro w hSw; skip; go_simp; (try with_reducible rfl))); (try (refine wpAnyL_norm (by simp only [Act.put, List.setIfInBounds_toArray, List.set_cons_zero, List.set_cons_succ]; rfl) ?_))
        refine wpAnyL_take (i := 7) (v := ?_) rfl (by kernel_rfl) (fun _ _ _ h => h) (Or.inl ⟨by rfl, ?_⟩) (by assumption) ?_; rotate_left; (focus (intro w hSw; skip; go_simp; (try with_reducible rfl))); (try (refine wpAnyL_norm (by simp only [Act.put, List.setIfInBounds_toArray, List.set_cons_zero, List.set_cons_succ]; rfl) ?_))
        refine wpAnyL_take (i := 8) (v := ?_) rfl (by kernel_rfl) (fun _ _ _ h => h) (Or.inl ⟨by rfl, ?_⟩) (by assumption) ?_; rotate_left; (focus (intro w hSw; skip; go_simp; (try with_reducible rfl))); (try (refine wpAnyL_norm (by simp only [Act.put, List.setIfInBounds_toArray, List.set_cons_zero, List.set_cons_succ]; rfl) ?_))
        refine wpAnyL_take (i := 9) (v := ?_) rfl (by kernel_rfl) (fun _ _ _ h => h) (Or.inl ⟨by rfl, ?_⟩) (by assumption) ?_; rotate_left; (focus (intro w hSw; skip; go_simp; (try with_reducible rfl))); (try (refine wpAnyL_norm (by simp only [Act.put, List.setIfInBounds_toArray, List.set_cons_zero, List.set_cons_succ]; rfl) ?_))
        refine wpAnyL_take (i := 10) (v := ?_) rfl (by kernel_rfl) (fun _ _ _ h => h) (Or.inl ⟨by rfl, ?_⟩) (by assumption) ?_; rotate_left; (focus (intro w hSw; skip; go_simp; (try with_reducible rfl))); (try (refine wpAnyL_norm (by simp only [Act.put, List.setIfInBounds_toArray, List.set_cons_zero, List.set_cons_succ]; rfl) ?_))
        refine wpAnyL_take (i := 11) (v := ?_) rfl (by kernel_rfl) (fun _ _ _ h => h) (Or.inl ⟨by rfl, ?_⟩) (by assumption) ?_; rotate_left; (focus (intro w hSw; skip; go_simp; (try with_reducible rfl))); (try (refine wpAnyL_norm (by simp only [Act.put, List.setIfInBounds_toArray, List.set_cons_zero, List.set_cons_succ]; rfl) ?_))
        refine wpAnyL_take (i := 12) (v := ?_) rfl (by kernel_rfl) (fun _ _ _ h => h) (Or.inl ⟨by rfl, ?_⟩) (by assumption) ?_; rotate_left; (focus (intro w hSw; skip; go_simp; (try with_reducible rfl))); (try (refine wpAnyL_norm (by simp only [Act.put, List.setIfInBounds_toArray, List.set_cons_zero, List.set_cons_succ]; rfl) ?_))
        refine wpAnyL_take (i := 13) (v := ?_) rfl (by kernel_rfl) (fun _ _ _ h => h) (Or.inl ⟨by rfl, ?_⟩) (by assumption) ?_; rotate_left; (focus (intro w hSw; (have c := (hSw.cell hpl2 (by simp)).trans HD0.out); go_simp; (try with_reducible rfl))); (try (refine wpAnyL_norm (by simp only [Act.put, List.setIfInBounds_toArray, List.set_cons_zero, List.set_cons_succ]; rfl) ?_))
        refine wpAnyL_take (i := 14) (v := ?_) rfl (by kernel_rfl) (fun _ _ _ h => h) (Or.inl ⟨by rfl, ?_⟩) (by assumption) ?_; rotate_left; (focus (intro w hSw; skip; go_simp; (try with_reducible rfl))); (try (refine wpAnyL_norm (by simp only [Act.put, List.setIfInBounds_toArray, List.set_cons_zero, List.set_cons_succ]; rfl) ?_))
        refine wpAnyL_take (i := 15) (v := ?_) rfl (by kernel_rfl) (fun _ _ _ h => h) (Or.inl ⟨by rfl, ?_⟩) (by assumption) ?_; rotate_left; (focus (intro w hSw; skip; go_simp; (try with_reducible rfl))); (try (refine wpAnyL_norm (by simp only [Act.put, List.setIfInBounds_toArray, List.set_cons_zero, List.set_cons_succ]; rfl) ?_))
        refine wpAnyL_take (i := 16) (v := ?_) rfl (by kernel_rfl) (fun _ _ _ h => h) (Or.inl ⟨by rfl, ?_⟩) (by assumption) ?_; rotate_left; (focus (intro w hSw; skip; go_simp; (try with_reducible rfl))); (try (refine wpAnyL_norm (by simp only [Act.put, List.setIfInBounds_toArray, List.set_cons_zero, List.set_cons_succ]; rfl) ?_))
        refine wpAnyL_take (i := 17) (v := ?_) rfl (by kernel_rfl) (fun _ _ _ h => h) (Or.inl ⟨by rfl, ?_⟩) (by assumption) ?_; rotate_left; (focus (intro w hSw; (have c := (hSw.cell hb2 (by simp)).trans HD3.out); go_simp; (try with_reducible rfl))); (try (refine wpAnyL_norm (by simp only [Act.put, List.setIfInBounds_toArray, List.set_cons_zero, List.set_cons_succ]; rfl) ?_))
        refine wpAnyL_take (i := 18) (v := ?_) rfl (by kernel_rfl) (fun _ _ _ h => h) (Or.inl ⟨by rfl, ?_⟩) (by assumption) ?_; rotate_left; (focus (intro w hSw; skip; go_simp; (try with_reducible rfl))); (try (refine wpAnyL_norm (by simp only [Act.put, List.setIfInBounds_toArray, List.set_cons_zero, List.set_cons_succ]; rfl) ?_))
        refine wpAnyL_take (i := 19) (v := ?_) rfl (by kernel_rfl) (fun _ _ _ h => h) (Or.inl ⟨by rfl, ?_⟩) (by assumption) ?_; rotate_left; (focus (intro w hSw; skip; go_simp; (try with_reducible rfl))); (try (refine wpAnyL_norm (by simp only [Act.put, List.setIfInBounds_toArray, List.set_cons_zero, List.set_cons_succ]; rfl) ?_))
        refine wpAnyL_take (i := 20) (v := ?_) rfl (by kernel_rfl) (fun _ _ _ h => h) (Or.inl ⟨by rfl, ?_⟩) (by assumption) ?_; rotate_left; (focus (intro w hSw; skip; go_simp; (try with_reducible rfl))); (try (refine wpAnyL_norm (by simp only [Act.put, List.setIfInBounds_toArray, List.set_cons_zero, List.set_cons_succ]; rfl) ?_))
        refine wpAnyL_take (i := 21) (v := undef) rfl (by kernel_rfl) (fun _ _ _ h => h) (Or.inr ⟨by rfl, rfl⟩) (by assumption) ?_; (try (refine wpAnyL_norm (by simp only [Act.put, List.setIfInBounds_toArray, List.set_cons_zero, List.set_cons_succ]; rfl) ?_))
        refine wpAnyL_take (i := 22) (v := undef) rfl (by kernel_rfl) (fun _ _ _ h => h) (Or.inr ⟨by rfl, rfl⟩) (by assumption) ?_; (try (refine wpAnyL_norm (by simp only [Act.put, List.setIfInBounds_toArray, List.set_cons_zero, List.set_cons_succ]; rfl) ?_))
        refine wpAnyL_take (i := 23) (v := undef) rfl (by kernel_rfl) (fun _ _ _ h => h) (Or.inr ⟨by rfl, rfl⟩) (by assumption) ?_; (try (refine wpAnyL_norm (by simp only [Act.put, List.setIfInBounds_toArray, List.set_cons_zero, List.set_cons_succ]; rfl) ?_))
        refine wpAnyL_take (i := 24) (v := undef) rfl (by kernel_rfl) (fun _ _ _ h => h) (Or.inr ⟨by rfl, rfl⟩) (by assumption) ?_; (try (refine wpAnyL_norm (by simp only [Act.put, List.setIfInBounds_toArray, List.set_cons_zero, List.set_cons_succ]; rfl) ?_))
        refine wpAnyL_take (i := 25) (v := undef) rfl (by kernel_rfl) (fun _ _ _ h => h) (Or.inr ⟨by rfl, rfl⟩) (by assumption) ?_; (try (refine wpAnyL_norm (by simp only [Act.put, List.setIfInBounds_toArray, List.set_cons_zero, List.set_cons_succ]; rfl) ?_))
        refine wpAnyL_take (i := 26) (v := undef) rfl (by kernel_rfl) (fun _ _ _ h => h) (Or.inr ⟨by rfl, rfl⟩) (by assumption) ?_; (try (refine wpAnyL_norm (by simp only [Act.put, List.setIfInBounds_toArray, List.set_cons_zero, List.set_cons_succ]; rfl) ?_))
        refine wpAnyL_take (i := 27) (v := undef) rfl (by kernel_rfl) (fun _ _ _ h => h) (Or.inr ⟨by rfl, rfl⟩) (by assumption) ?_; (try (refine wpAnyL_norm (by simp only [Act.put, List.setIfInBounds_toArray, List.set_cons_zero, List.set_cons_succ]; rfl) ?_))
        refine wpAnyL_take (i := 28) (v := undef) rfl (by kernel_rfl) (fun _ _ _ h => h) (Or.inr ⟨by rfl, rfl⟩) (by assumption) ?_; (try (refine wpAnyL_norm (by simp only [Act.put, List.setIfInBounds_toArray, List.set_cons_zero, List.set_cons_succ]; rfl) ?_))
        refine wpAnyL_take (i := 29) (v := undef) rfl (by kernel_rfl) (fun _ _ _ h => h) (Or.inr ⟨by rfl, rfl⟩) (by assumption) ?_; (try (refine wpAnyL_norm (by simp only [Act.put, List.setIfInBounds_toArray, List.set_cons_zero, List.set_cons_succ]; rfl) ?_))
        refine wpAnyL_take (i := 30) (v := undef) rfl (by kernel_rfl) (fun _ _ _ h => h) (Or.inr ⟨by rfl, rfl⟩) (by assumption) ?_; (try (refine wpAnyL_norm (by simp only [Act.put, List.setIfInBounds_toArray, List.set_cons_zero, List.set_cons_succ]; rfl) ?_))
        refine wpAnyL_take (i := 31) (v := undef) rfl (by kernel_rfl) (fun _ _ _ h => h) (Or.inr ⟨by rfl, rfl⟩) (by assumption) ?_; (try (refine wpAnyL_norm (by simp only [Act.put, List.setIfInBounds_toArray, List.set_cons_zero, List.set_cons_succ]; rfl) ?_))
        refine wpAnyL_take (i := 32) (v := undef) rfl (by kernel_rfl) (fun _ _ _ h => h) (Or.inr ⟨by rfl, rfl⟩) (by assumption) ?_; (try (refine wpAnyL_norm (by simp only [Act.put, List.setIfInBounds_toArray, List.set_cons_zero, List.set_cons_succ]; rfl) ?_))
        refine wpAnyL_take (i := 33) (v := undef) rfl (by kernel_rfl) (fun _ _ _ h => h) (Or.inr ⟨by rfl, rfl⟩) (by assumption) ?_; (try (refine wpAnyL_norm (by simp only [Act.put, List.setIfInBounds_toArray, List.set_cons_zero, List.set_cons_succ]; rfl) ?_))
        refine wpAnyL_take (i := 34) (v := ?_) rfl (by kernel_rfl) (fun _ _ _ h => h) (Or.inl ⟨by rfl, ?_⟩) (by assumption) ?_; rotate_left; (focus (intro w hSw; skip; go_simp; (try with_reducible rfl))); (try (refine wpAnyL_norm (by simp only [Act.put, List.setIfInBounds_toArray, List.set_cons_zero, List.set_cons_succ]; rfl) ?_))
        refine wpAnyL_done (by kernel_rfl) ?_ _
        have F3 := Lib.hid (F2.out.trans0 hHeld)
        go_wp2_with fail
        go_ret
        have hF := HF.out
        have hV : F = 8 := by rw [← hF]; exact (by rw [hF, HV.out]; try simp)
        exact ⟨by rw [hV]; rfl, by first | exact (F3.out) | exact ((F3.out)).drew | exact ((F3.out)).drew.drew | exact ((F3.out)).drewN _⟩
set_option maxHeartbeats 4000000 in
set_option maxRecDepth 100000 in
theorem rfault_A (w : World) (B p ha hs : Nat) (y : Rx) (gv ev av tv : Value) (hh : Rst w B p y gv ev av tv) (e : Ev) (hk : e.kind = 11) (hok : e.Ok) (h1 : ha < 4294967296) (h2 : hs < 4294967296) (hn : y.gs.length ≤ 1000) (hkn : y.ks.length ≤ 1000) (hen : y.en.length ≤ 1000) (hla : y.la ≤ 1000) :
    Calls Try.prog 40 #[.pointer (some ⟨p, 0, none⟩), .agg #[.int .u32 ha, .int .u32 hs], .agg (evl e).toArray] w fun r w' => r = .returned (.int .i64 (faultA y e : Nat)) ∧ Fr [] w w' := by
  obtain ⟨ek, eh, ev', en, ea, es⟩ := e
  dsimp only at hk
  (try subst hk)
  obtain ⟨ga, gc, rfl, hgr⟩ := hh.gr
  obtain ⟨ta, tc, rfl, htr⟩ := hh.tr
  obtain ⟨na, nc, rfl, hnr⟩ := hh.er
  have A0 := (At.new w 27 #[.int .u32 ha, .int .u32 hs]).old (.cells (evl ⟨11, eh, ev', en, ea, es⟩).toArray 41)
  have E0 := At.new (w.alloc (.cells #[.int .u32 ha, .int .u32 hs] 27)) 41 (evl ⟨11, eh, ev', en, ea, es⟩).toArray
  have F0 := (show Fr [] w ((w.alloc (.cells #[.int .u32 ha, .int .u32 hs] 27)).alloc (.cells (evl ⟨11, eh, ev', en, ea, es⟩).toArray 41)) from (by repeat (first | exact Fr.refl _ _ | assumption | refine Fr.trans0 ?_ (by assumption) | refine Fr.drewN ?_ _ | refine Fr.alloc ?_ _ | refine Fr.drew ?_)))
  rw [World.size_alloc] at E0
  have HH := hh.fr0 F0
  have HIR := Lib.hid (show (Try.prog.info? 27).map (·.size) = some 2 by kernel_rfl)
  have HG := hgr.fr0 F0
  have HT := htr.fr0 F0
  have HE := hnr.fr0 F0
  clear hh hgr htr hnr
  obtain ⟨w1, hw1⟩ : ∃ W, (w.alloc (.cells #[.int .u32 ha, .int .u32 hs] 27)).alloc (.cells (evl ⟨11, eh, ev', en, ea, es⟩).toArray 41) = W := ⟨_, rfl⟩
  rw [hw1] at A0 E0 F0 HH HG HT HE
  unfold evl at E0
  dsimp only at E0
  have HP := Lib.hid HH.at_
  have HH := Lib.hid HH
  have HG := Lib.hid HG
  have HT := Lib.hid HT
  have HE := Lib.hid HE
  have F0 := Lib.hid F0
  have r0 := A0.cell 0
  have r1 := A0.cell 1
  have z0 := E0.cell 0
  have z1 := E0.cell 1
  have z3 := E0.cell 3
  have z4 := E0.cell 4
  have z5 := E0.cell 5
  have p0 := HP.out.cell 0
  have p1 := HP.out.cell 1
  have p2 := HP.out.cell 2
  have p3 := HP.out.cell 3
  have p4 := HP.out.cell 4
  have p6 := HP.out.cell 6
  simp only [List.getElem?_toArray, List.getElem?_cons_zero, List.getElem?_cons_succ] at r0 r1 z0 z1 z3 z4 z5 p0 p1 p2 p3 p4 p6
  have A0 := Lib.hid A0
  have E0 := Lib.hid E0
  obtain ⟨F, hF⟩ : ∃ F, faultA y ⟨11, eh, ev', en, ea, es⟩ = F := ⟨_, rfl⟩
  rw [hF]
  have HF := Lib.hid hF
  clear hF
  have CF := Lib.hid (rwaits_any w1 B p y _ _ _ _ HH.out eh hkn)
  cases hfr : waitR y.ks eh with
  | none =>
    rw [hfr, wI_none] at CF
    have hv : F = 0 := by rw [← HF.out]; unfold faultA; rw [hfr]
    have HV := Lib.hid hv
    clear hfr hv
    go_enter Try.func40, Try.ntmps40
    go_upto_region 1 with (fail)
    clear hw1
    go_wp2_with fail
    refine (CF.out).mono ?_
    rintro e1 w2 ⟨rfl, hf2⟩
    have F2 := Lib.hid (F0.out.trans0 hf2)
    clear hf2
    go_wp2_with fail
    go_ret
    have hF := HF.out
    have hV : F = 0 := by rw [← hF]; exact (by rw [hF, HV.out])
    exact ⟨by rw [hV]; rfl, by first | exact (F2.out) | exact ((F2.out)).drew | exact ((F2.out)).drew.drew | exact ((F2.out)).drewN _⟩
  | some i =>
    rw [hfr, wI_some] at CF
    have hv : F = 11 := by rw [← HF.out]; unfold faultA; rw [hfr]
    have HV := Lib.hid hv
    have hi0 : (0 : Int) ≤ (i : Int) := by omega
    clear hfr hv
    go_enter Try.func40, Try.ntmps40
    go_upto_region 1 with (fail)
    clear hw1
    go_wp2_with fail
    refine (CF.out).mono ?_
    rintro e1 w2 ⟨rfl, hf2⟩
    have F2 := Lib.hid (F0.out.trans0 hf2)
    clear hf2
    go_wp2_with fail
    go_ret
    have hF := HF.out
    have hV : F = 11 := by rw [← hF]; exact (by rw [hF, HV.out])
    exact ⟨by rw [hV]; rfl, by first | exact (F2.out) | exact ((F2.out)).drew | exact ((F2.out)).drew.drew | exact ((F2.out)).drewN _⟩
set_option maxHeartbeats 4000000 in
set_option maxRecDepth 100000 in
theorem rfault_D (w : World) (B p ha hs : Nat) (y : Rx) (gv ev av tv : Value) (hh : Rst w B p y gv ev av tv) (e : Ev) (hk : e.kind = 10) (hok : e.Ok) (h1 : ha < 4294967296) (h2 : hs < 4294967296) (hn : y.gs.length ≤ 1000) (hkn : y.ks.length ≤ 1000) (hen : y.en.length ≤ 1000) (hla : y.la ≤ 1000) :
    Calls Try.prog 40 #[.pointer (some ⟨p, 0, none⟩), .agg #[.int .u32 ha, .int .u32 hs], .agg (evl e).toArray] w fun r w' => r = .returned (.int .i64 (faultD y e : Nat)) ∧ Fr [] w w' := by
  obtain ⟨ek, eh, ev', en, ea, es⟩ := e
  dsimp only at hk
  (try subst hk)
  obtain ⟨ga, gc, rfl, hgr⟩ := hh.gr
  obtain ⟨ta, tc, rfl, htr⟩ := hh.tr
  obtain ⟨na, nc, rfl, hnr⟩ := hh.er
  have A0 := (At.new w 27 #[.int .u32 ha, .int .u32 hs]).old (.cells (evl ⟨10, eh, ev', en, ea, es⟩).toArray 41)
  have E0 := At.new (w.alloc (.cells #[.int .u32 ha, .int .u32 hs] 27)) 41 (evl ⟨10, eh, ev', en, ea, es⟩).toArray
  have F0 := (show Fr [] w ((w.alloc (.cells #[.int .u32 ha, .int .u32 hs] 27)).alloc (.cells (evl ⟨10, eh, ev', en, ea, es⟩).toArray 41)) from (by repeat (first | exact Fr.refl _ _ | assumption | refine Fr.trans0 ?_ (by assumption) | refine Fr.drewN ?_ _ | refine Fr.alloc ?_ _ | refine Fr.drew ?_)))
  rw [World.size_alloc] at E0
  have HH := hh.fr0 F0
  have HIR := Lib.hid (show (Try.prog.info? 27).map (·.size) = some 2 by kernel_rfl)
  have HG := hgr.fr0 F0
  have HT := htr.fr0 F0
  have HE := hnr.fr0 F0
  clear hh hgr htr hnr
  obtain ⟨w1, hw1⟩ : ∃ W, (w.alloc (.cells #[.int .u32 ha, .int .u32 hs] 27)).alloc (.cells (evl ⟨10, eh, ev', en, ea, es⟩).toArray 41) = W := ⟨_, rfl⟩
  rw [hw1] at A0 E0 F0 HH HG HT HE
  unfold evl at E0
  dsimp only at E0
  have HP := Lib.hid HH.at_
  have HH := Lib.hid HH
  have HG := Lib.hid HG
  have HT := Lib.hid HT
  have HE := Lib.hid HE
  have F0 := Lib.hid F0
  have r0 := A0.cell 0
  have r1 := A0.cell 1
  have z0 := E0.cell 0
  have z1 := E0.cell 1
  have z3 := E0.cell 3
  have z4 := E0.cell 4
  have z5 := E0.cell 5
  have p0 := HP.out.cell 0
  have p1 := HP.out.cell 1
  have p2 := HP.out.cell 2
  have p3 := HP.out.cell 3
  have p4 := HP.out.cell 4
  have p6 := HP.out.cell 6
  simp only [List.getElem?_toArray, List.getElem?_cons_zero, List.getElem?_cons_succ] at r0 r1 z0 z1 z3 z4 z5 p0 p1 p2 p3 p4 p6
  have A0 := Lib.hid A0
  have E0 := Lib.hid E0
  obtain ⟨F, hF⟩ : ∃ F, faultD y ⟨10, eh, ev', en, ea, es⟩ = F := ⟨_, rfl⟩
  rw [hF]
  have HF := Lib.hid hF
  clear hF
  have CF := Lib.hid (rwaits_any w1 B p y _ _ _ _ HH.out eh hkn)
  cases hfr : waitR y.ks eh with
  | none =>
    rw [hfr, wI_none] at CF
    have hv : F = 5 := by rw [← HF.out]; unfold faultD; rw [hfr]
    have HV := Lib.hid hv
    clear hfr hv
    go_enter Try.func40, Try.ntmps40
    go_upto_region 1 with (fail)
    clear hw1
    go_wp2_with fail
    refine (CF.out).mono ?_
    rintro e1 w2 ⟨rfl, hf2⟩
    have F2 := Lib.hid (F0.out.trans0 hf2)
    clear hf2
    go_wp2_with fail
    go_ret
    have hF := HF.out
    have hV : F = 5 := by rw [← hF]; exact (by rw [hF, HV.out])
    exact ⟨by rw [hV]; rfl, by first | exact (F2.out) | exact ((F2.out)).drew | exact ((F2.out)).drew.drew | exact ((F2.out)).drewN _⟩
  | some i =>
    rw [hfr, wI_some] at CF
    obtain ⟨g, hgi, _⟩ := waitR_some hfr
    have hil := (List.getElem?_eq_some_iff.1 hgi).1
    have hv : F = if restR y.gs g.2 = true then 8 else 0 := by rw [← HF.out]; unfold faultD; rw [hfr]; simp only [tOf_eq hgi]
    have hcell : ∃ b off, ta = some ⟨b, off, none⟩ ∧ b < w1.heap.size ∧ w1.cell? ⟨b, off + i, none⟩ = some (.int .i64 g.2) := by
      rcases HT.out with h0 | ⟨b, off, rfl, hb, hc⟩
      · have : y.ks = [] := by simpa using h0
        rw [this] at hgi; cases hgi
      · have := RowsAt.cell hc (k := i) (by rw [List.getElem?_map, List.getElem?_map, hgi]; rfl) 0 rfl
        rw [Nat.mul_one, Nat.add_zero] at this
        exact ⟨b, off, rfl, hb, this⟩
    obtain ⟨b, off, rfl, hb, hcell⟩ := hcell
    have HC := Lib.hid hcell
    have CR := Lib.hid fun W (hW : Fr [] w1 W) => rrests_any W B p y _ _ _ _ (HH.out.fr0 hW) g.2 hn
    obtain ⟨R, hR⟩ : ∃ R, restR y.gs g.2 = R := ⟨_, rfl⟩
    rw [hR] at hv CR
    have HV := Lib.hid hv
    have hiI : (i : Int) < (y.ks.length : Int) := by omega
    have hi0 : ¬ (i : Int) < 0 := by omega
    have hi1 : decide ((i : Int) < 0) = false := by simp
    clear hv hcell hfr hgi hil hR
    go_enter Try.func40, Try.ntmps40
    go_upto_region 1 with (fail)
    clear hw1
    go_wp2_with fail
    refine (CF.out).mono ?_
    rintro e1 w2 ⟨rfl, hf2⟩
    have F2 := Lib.hid (F0.out.trans0 hf2)
    have FF := Lib.hid hf2
    have d6 := (HP.out.fr hf2 (by simp)).cell 6
    have d3 := (hf2.cell hb (by simp)).trans HC.out
    simp only [List.getElem?_toArray, List.getElem?_cons_zero, List.getElem?_cons_succ] at d6
    clear hf2
    go_wp2_with fail
    refine (CR.out _ FF.out).mono ?_
    rintro e1 w3 ⟨rfl, hf3⟩
    have F3 := Lib.hid (F2.out.trans0 hf3)
    clear hf3
    cases R
    · go_wp2_with fail
      go_ret
      have hF := HF.out
      have hV : F = 0 := by rw [← hF]; exact (by rw [hF, HV.out]; try simp)
      exact ⟨by rw [hV]; rfl, by first | exact (F3.out) | exact ((F3.out)).drew | exact ((F3.out)).drew.drew | exact ((F3.out)).drewN _⟩
    · go_wp2_with fail
      go_ret
      have hF := HF.out
      have hV : F = 8 := by rw [← hF]; exact (by rw [hF, HV.out]; try simp)
      exact ⟨by rw [hV]; rfl, by first | exact (F3.out) | exact ((F3.out)).drew | exact ((F3.out)).drew.drew | exact ((F3.out)).drewN _⟩
--- the look at the ends in region 31
set_option maxHeartbeats 4000000 in
set_option maxRecDepth 100000 in
theorem rfault_E (w : World) (B p ha hs : Nat) (y : Rx) (gv ev av tv : Value) (hh : Rst w B p y gv ev av tv) (e : Ev) (hk : e.kind = 7) (hok : e.Ok) (h1 : ha < 4294967296) (h2 : hs < 4294967296) (hn : y.gs.length ≤ 1000) (hkn : y.ks.length ≤ 1000) (hen : y.en.length ≤ 1000) (hla : y.la ≤ 1000) :
    Calls Try.prog 40 #[.pointer (some ⟨p, 0, none⟩), .agg #[.int .u32 ha, .int .u32 hs], .agg (evl e).toArray] w fun r w' => r = .returned (.int .i64 (faultE y e : Nat)) ∧ Fr [] w w' := by
  obtain ⟨ek, eh, ev', en, ea, es⟩ := e
  dsimp only at hk
  (try subst hk)
  obtain ⟨ga, gc, rfl, hgr⟩ := hh.gr
  obtain ⟨ta, tc, rfl, htr⟩ := hh.tr
  obtain ⟨na, nc, rfl, hnr⟩ := hh.er
  have A0 := (At.new w 27 #[.int .u32 ha, .int .u32 hs]).old (.cells (evl ⟨7, eh, ev', en, ea, es⟩).toArray 41)
  have E0 := At.new (w.alloc (.cells #[.int .u32 ha, .int .u32 hs] 27)) 41 (evl ⟨7, eh, ev', en, ea, es⟩).toArray
  have F0 := (show Fr [] w ((w.alloc (.cells #[.int .u32 ha, .int .u32 hs] 27)).alloc (.cells (evl ⟨7, eh, ev', en, ea, es⟩).toArray 41)) from (by repeat (first | exact Fr.refl _ _ | assumption | refine Fr.trans0 ?_ (by assumption) | refine Fr.drewN ?_ _ | refine Fr.alloc ?_ _ | refine Fr.drew ?_)))
  rw [World.size_alloc] at E0
  have HH := hh.fr0 F0
  have HIR := Lib.hid (show (Try.prog.info? 27).map (·.size) = some 2 by kernel_rfl)
  have HG := hgr.fr0 F0
  have HT := htr.fr0 F0
  have HE := hnr.fr0 F0
  clear hh hgr htr hnr
  obtain ⟨w1, hw1⟩ : ∃ W, (w.alloc (.cells #[.int .u32 ha, .int .u32 hs] 27)).alloc (.cells (evl ⟨7, eh, ev', en, ea, es⟩).toArray 41) = W := ⟨_, rfl⟩
  rw [hw1] at A0 E0 F0 HH HG HT HE
  unfold evl at E0
  dsimp only at E0
  have HP := Lib.hid HH.at_
  have HH := Lib.hid HH
  have HG := Lib.hid HG
  have HT := Lib.hid HT
  have HE := Lib.hid HE
  have F0 := Lib.hid F0
  have r0 := A0.cell 0
  have r1 := A0.cell 1
  have z0 := E0.cell 0
  have z1 := E0.cell 1
  have z3 := E0.cell 3
  have z4 := E0.cell 4
  have z5 := E0.cell 5
  have p0 := HP.out.cell 0
  have p1 := HP.out.cell 1
  have p2 := HP.out.cell 2
  have p3 := HP.out.cell 3
  have p4 := HP.out.cell 4
  have p6 := HP.out.cell 6
  simp only [List.getElem?_toArray, List.getElem?_cons_zero, List.getElem?_cons_succ] at r0 r1 z0 z1 z3 z4 z5 p0 p1 p2 p3 p4 p6
  have A0 := Lib.hid A0
  have E0 := Lib.hid E0
  obtain ⟨F, hF⟩ : ∃ F, faultE y ⟨7, eh, ev', en, ea, es⟩ = F := ⟨_, rfl⟩
  rw [hF]
  have HF := Lib.hid hF
  clear hF
  have CR := Lib.hid fun W (hW : Fr [] w1 W) => rrests_any W B p y _ _ _ _ (HH.out.fr0 hW) y.be hn
  obtain ⟨S, hS⟩ : ∃ S, y.sw = S := ⟨_, rfl⟩
  obtain ⟨C, hC⟩ : ∃ C, ((en : Int) != (y.la : Int)) = C := ⟨_, rfl⟩
  have hC2 : (en != y.la) = C := by rw [← hC, Bool.eq_iff_iff]; simp only [bne_iff_ne]; omega
  obtain ⟨R, hR⟩ : ∃ R, restR y.gs y.be = R := ⟨_, rfl⟩
  rw [hR] at CR
  have hv : ∀ b, longR y.en y.ks = b → F = if S = false ∨ C = true then 4 else if R = true then 5 else if b = true then 3 else 0 := fun b hb => by
    rw [← HF.out]
    unfold faultE
    rw [hS, hR, hb]
    have : (en ≠ y.la) ↔ C = true := by rw [← hC2]; simp only [bne_iff_ne]
    simp only [this]
  have HV := Lib.hid hv
  have HP := HP.out
  rw [hS] at HP p1
  have HP := Lib.hid HP
  clear hv hS hR HF
  cases S
  · go_enter Try.func40, Try.ntmps40
    go_upto_region 1 with (fail)
    clear hw1
    go_wp2_with fail
    (try go_region)
    go_wp2_with fail
    go_ret
    exact ⟨by rw [HV.out _ rfl]; simp, by first | exact F0.out | exact F0.out.drew⟩
  cases C
  rotate_left
  · go_enter Try.func40, Try.ntmps40
    go_upto_region 1 with (fail)
    clear hw1
    go_wp2_with fail
    (try go_region)
    go_wp2_with fail
    go_ret
    exact ⟨by rw [HV.out _ rfl]; simp, by first | exact F0.out | exact F0.out.drew⟩
  obtain ⟨n, hnn⟩ : ∃ n, y.ks.length = n := ⟨_, rfl⟩
  obtain ⟨z, hzz⟩ : ∃ z, y.en.length = z := ⟨_, rfl⟩
  have HN := Lib.hid hnn
  have HZ := Lib.hid hzz
  have HP := HP.out
  rw [hnn, hzz] at HP
  rw [hnn] at p6 hkn
  rw [hzz] at p4 hen
  have HP := Lib.hid HP
  have hpl := HP.out.lt
  clear hnn hzz
  obtain ⟨P, hPP⟩ : ∃ P : Ev × Nat → Bool, (fun k => longB y.en k.2) = P := ⟨_, rfl⟩
  have hPe : ∀ g : Ev × Nat, P g = (decide (2 ≤ z) && decide (g.2 < y.en.getD (z - 2) 0)) := fun g => by rw [← hPP, ← HZ.out]; rfl
  have HPE := Lib.hid hPe
  have hl0 : ∀ b, y.ks.any P = b → F = if R = true then 5 else if b = true then 3 else 0 := fun b hb => by
    rw [HV.out b (by unfold longR; rw [hPP]; exact hb)]; simp
  have HL := Lib.hid hl0
  clear hPP hPe hl0
  go_enter Try.func40, Try.ntmps40
  go_upto_region 1 with (fail)
  clear hw1
  go_wp2_with fail
  (try go_region)
  go_wp2_with fail
  have hfd : Fr [] w1 w1.drew := (Fr.refl _ _).drew
  refine (CR.out _ hfd).mono ?_
  rintro e1 w2 ⟨rfl, hf2⟩
  have F2 := Lib.hid (hfd.trans0 hf2)
  have d6 := (HP.out.fr F2.out (by simp)).cell 6
  simp only [List.getElem?_toArray, List.getElem?_cons_zero, List.getElem?_cons_succ] at d6
  clear hf2 hfd
  cases R
  rotate_left
  · go_wp2_with fail
    go_ret
    exact ⟨by rw [HL.out _ rfl]; simp, F0.out.trans0 F2.out⟩
  go_wp2_with fail
  go_loopw [10] (fun i wr => ∃ k : Nat, k ≤ n ∧ i = .int .i64 k ∧ (y.ks.take k).any P = false ∧ Fr [] w1 wr) (fun i _ => n - (intOf i).toNat)
  case atStart => exact ⟨0, by omega, rfl, by simp, F2.out⟩
  case round =>
    clear d6
    obtain ⟨k, hk, rfl, hno, hf⟩ := hrel
    have FR := Lib.hid hf
    have HNO := Lib.hid hno
    have c6 := (HP.out.fr hf (by simp)).cell 6
    have c4 := (HP.out.fr hf (by simp)).cell 4
    simp only [List.getElem?_toArray, List.getElem?_cons_zero, List.getElem?_cons_succ] at c6 c4
    have HC6 := Lib.hid c6
    have HC4 := Lib.hid c4
    clear hf hno
    by_cases hlt : k < n
    · obtain ⟨g, hgk⟩ : ∃ g, y.ks[k]? = some g := ⟨_, List.getElem?_eq_getElem (by rw [HN.out]; exact hlt)⟩
      have hcell : ∃ b off, ta = some ⟨b, off, none⟩ ∧ b < wr.heap.size ∧ wr.cell? ⟨b, off + k, none⟩ = some (.int .i64 g.2) := by
        rcases HT.out.fr0 FR.out with h0 | ⟨b, off, rfl, hb, hc⟩
        · have : y.ks = [] := by simpa using h0
          rw [this] at hgk; cases hgk
        · have := RowsAt.cell hc (k := k) (by rw [List.getElem?_map, List.getElem?_map, hgk]; rfl) 0 rfl
          rw [Nat.mul_one, Nat.add_zero] at this
          exact ⟨b, off, rfl, hb, this⟩
      obtain ⟨b, off, rfl, hb, hcell⟩ := hcell
      have HC2 := Lib.hid hcell
      have hkI : (k : Int) < (n : Int) := by omega
      have hsn : (y.ks.take (k + 1)).any P = P g := by
        rw [List.take_add_one, hgk, Option.toList_some, List.any_append, HNO.out]; simp
      have hany : P g = true → y.ks.any P = true := fun h => List.any_eq_true.2 ⟨g, List.mem_of_getElem? hgk, h⟩
      rw [HPE.out g] at hsn hany
      have hpl' := (HP.out.fr FR.out (by simp)).lt
      by_cases h2 : 2 ≤ z
      · obtain ⟨m, hm⟩ : ∃ m, z - 2 = m := ⟨_, rfl⟩
        rw [hm, decide_eq_true h2, Bool.true_and] at hsn hany
        have hmz : (z : Int) - 2 = (m : Int) := by omega
        have hmw : IntKind.i64.wrap (m : Int) = (m : Int) := by simp [IntKind.wrap, IntKind.signed, IntKind.bits]; omega
        have hmI : (m : Int) < (z : Int) := by omega
        have hm0 : ¬ (m : Int) < 0 := by omega
        have h2I : (2 : Int) ≤ (z : Int) := by omega
        have h2d : decide ((2 : Int) ≤ (z : Int)) = true := by simp; omega
        have h2n : decide (2 ≤ z) = true := by simp; omega
        obtain ⟨v, hv⟩ : ∃ v, y.en[m]? = some v := ⟨_, List.getElem?_eq_getElem (by rw [HZ.out]; omega)⟩
        have hgd : y.en.getD m 0 = v := by rw [List.getD_eq_getElem?_getD, hv]; rfl
        rw [hgd] at hsn hany
        have hcell : ∃ b off, na = some ⟨b, off, none⟩ ∧ b < wr.heap.size ∧ wr.cell? ⟨b, off + m, none⟩ = some (.int .i64 v) := by
          rcases HE.out.fr0 FR.out with h0 | ⟨b, off, rfl, hb, hc⟩
          · have : y.en = [] := by simpa using h0
            rw [this] at hv; cases hv
          · have := RowsAt.cell hc (k := m) (by rw [List.getElem?_map, hv]; rfl) 0 rfl
            rw [Nat.mul_one, Nat.add_zero] at this
            exact ⟨b, off, rfl, hb, this⟩
        obtain ⟨b2, off2, rfl, hb2, hcell⟩ := hcell
        have HC8 := Lib.hid hcell
        obtain ⟨D, hD⟩ : ∃ D, decide ((g.2 : Int) < (v : Int)) = D := ⟨_, rfl⟩
        have hD2 : decide (g.2 < v) = D := by rw [← hD, decide_eq_decide]; omega
        rw [hD2] at hsn hany
        have HSN := Lib.hid hsn
        have HANY := Lib.hid hany
        clear hcell hgk hsn hany hv hgd
        go_upto_region 31 with (fail)
        clear c6 c4
        refine wp_region_L (fun W => Fr [] wr W) [] (by kernel_rfl) (Fr.refl _ _).drew (fun hHeld => ?_)
        refine wpAnyL_take (i := 0) (v := ?_) rfl (by kernel_rfl) (fun _ _ _ h => h) (Or.inl ⟨by rfl, ?_⟩) (by assumption) ?_; rotate_left; (focus (intro w hSw; skip; go_simp; (try with_reducible rfl))); (try (refine wpAnyL_norm (by simp only [Act.put, List.setIfInBounds_toArray, List.set_cons_zero, List.set_cons_succ]; rfl) ?_))
        refine wpAnyL_take (i := 1) (v := ?_) rfl (by kernel_rfl) (fun _ _ _ h => h) (Or.inl ⟨by rfl, ?_⟩) (by assumption) ?_; rotate_left; (focus (intro w hSw; skip; go_simp; (try with_reducible rfl))); (try (refine wpAnyL_norm (by simp only [Act.put, List.setIfInBounds_toArray, List.set_cons_zero, List.set_cons_succ]; rfl) ?_))
        refine wpAnyL_take (i := 2) (v := ?_) rfl (by kernel_rfl) (fun _ _ _ h => h) (Or.inl ⟨by rfl, ?_⟩) (by assumption) ?_; rotate_left; (focus (intro w hSw; skip; go_simp; (try with_reducible rfl))); (try (refine wpAnyL_norm (by simp only [Act.put, List.setIfInBounds_toArray, List.set_cons_zero, List.set_cons_succ]; rfl) ?_))
        refine wpAnyL_take (i := 3) (v := ?_) rfl (by kernel_rfl) (fun _ _ _ h => h) (Or.inl ⟨by rfl, ?_⟩) (by assumption) ?_; rotate_left; (focus (intro w hSw; (have c := (hSw.cell hpl' (by simp)).trans HC4.out); go_simp; (try with_reducible rfl))); (try (refine wpAnyL_norm (by simp only [Act.put, List.setIfInBounds_toArray, List.set_cons_zero, List.set_cons_succ]; rfl) ?_))
        refine wpAnyL_take (i := 4) (v := ?_) rfl (by kernel_rfl) (fun _ _ _ h => h) (Or.inl ⟨by rfl, ?_⟩) (by assumption) ?_; rotate_left; (focus (intro w hSw; skip; go_simp; (try with_reducible rfl))); (try (refine wpAnyL_norm (by simp only [Act.put, List.setIfInBounds_toArray, List.set_cons_zero, List.set_cons_succ]; rfl) ?_))
        refine wpAnyL_take (i := 5) (v := ?_) rfl (by kernel_rfl) (fun _ _ _ h => h) (Or.inl ⟨by rfl, ?_⟩) (by assumption) ?_; rotate_left; (focus (intro w hSw; skip; go_simp; (try with_reducible rfl))); (try (refine wpAnyL_norm (by simp only [Act.put, List.setIfInBounds_toArray, List.set_cons_zero, List.set_cons_succ]; rfl) ?_))
        refine wpAnyL_take (i := 6) (v := ?_) rfl (by kernel_rfl) (fun _ _ _ h => h) (Or.inl ⟨by rfl, ?_⟩) (by assumption) ?_; rotate_left; (focus (intro w hSw; skip; go_simp; (try with_reducible rfl))); (try (refine wpAnyL_norm (by simp only [Act.put, List.setIfInBounds_toArray, List.set_cons_zero, List.set_cons_succ]; rfl) ?_))
        refine wpAnyL_take (i := 7) (v := ?_) rfl (by kernel_rfl) (fun _ _ _ h => h) (Or.inl ⟨by rfl, ?_⟩) (by assumption) ?_; rotate_left; (focus (intro w hSw; skip; go_simp; (try with_reducible rfl))); (try (refine wpAnyL_norm (by simp only [Act.put, List.setIfInBounds_toArray, List.set_cons_zero, List.set_cons_succ]; rfl) ?_))
        refine wpAnyL_take (i := 8) (v := ?_) rfl (by kernel_rfl) (fun _ _ _ h => h) (Or.inl ⟨by rfl, ?_⟩) (by assumption) ?_; rotate_left; (focus (intro w hSw; skip; go_simp; (try with_reducible rfl))); (try (refine wpAnyL_norm (by simp only [Act.put, List.setIfInBounds_toArray, List.set_cons_zero, List.set_cons_succ]; rfl) ?_))
        refine wpAnyL_take (i := 9) (v := ?_) rfl (by kernel_rfl) (fun _ _ _ h => h) (Or.inl ⟨by rfl, ?_⟩) (by assumption) ?_; rotate_left; (focus (intro w hSw; skip; go_simp; (try with_reducible rfl))); (try (refine wpAnyL_norm (by simp only [Act.put, List.setIfInBounds_toArray, List.set_cons_zero, List.set_cons_succ]; rfl) ?_))
        refine wpAnyL_take (i := 10) (v := ?_) rfl (by kernel_rfl) (fun _ _ _ h => h) (Or.inl ⟨by rfl, ?_⟩) (by assumption) ?_; rotate_left; (focus (intro w hSw; (have c := (hSw.cell hpl' (by simp)).trans HC6.out); go_simp; (try with_reducible rfl))); (try (refine wpAnyL_norm (by simp only [Act.put, List.setIfInBounds_toArray, List.set_cons_zero, List.set_cons_succ]; rfl) ?_))
        refine wpAnyL_take (i := 11) (v := ?_) rfl (by kernel_rfl) (fun _ _ _ h => h) (Or.inl ⟨by rfl, ?_⟩) (by assumption) ?_; rotate_left; (focus (intro w hSw; skip; go_simp; (try with_reducible rfl))); (try (refine wpAnyL_norm (by simp only [Act.put, List.setIfInBounds_toArray, List.set_cons_zero, List.set_cons_succ]; rfl) ?_))
        refine wpAnyL_take (i := 12) (v := ?_) rfl (by kernel_rfl) (fun _ _ _ h => h) (Or.inl ⟨by rfl, ?_⟩) (by assumption) ?_; rotate_left; (focus (intro w hSw; skip; go_simp; (try with_reducible rfl))); (try (refine wpAnyL_norm (by simp only [Act.put, List.setIfInBounds_toArray, List.set_cons_zero, List.set_cons_succ]; rfl) ?_))
        refine wpAnyL_take (i := 13) (v := ?_) rfl (by kernel_rfl) (fun _ _ _ h => h) (Or.inl ⟨by rfl, ?_⟩) (by assumption) ?_; rotate_left; (focus (intro w hSw; (have c := (hSw.cell hb (by simp)).trans HC2.out); go_simp; (try with_reducible rfl))); (try (refine wpAnyL_norm (by simp only [Act.put, List.setIfInBounds_toArray, List.set_cons_zero, List.set_cons_succ]; rfl) ?_))
        refine wpAnyL_take (i := 14) (v := ?_) rfl (by kernel_rfl) (fun _ _ _ h => h) (Or.inl ⟨by rfl, ?_⟩) (by assumption) ?_; rotate_left; (focus (intro w hSw; skip; go_simp; (try with_reducible rfl))); (try (refine wpAnyL_norm (by simp only [Act.put, List.setIfInBounds_toArray, List.set_cons_zero, List.set_cons_succ]; rfl) ?_))
        refine wpAnyL_take (i := 15) (v := ?_) rfl (by kernel_rfl) (fun _ _ _ h => h) (Or.inl ⟨by rfl, ?_⟩) (by assumption) ?_; rotate_left; (focus (intro w hSw; skip; go_simp; (try with_reducible rfl))); (try (refine wpAnyL_norm (by simp only [Act.put, List.setIfInBounds_toArray, List.set_cons_zero, List.set_cons_succ]; rfl) ?_))
        refine wpAnyL_take (i := 16) (v := ?_) rfl (by kernel_rfl) (fun _ _ _ h => h) (Or.inl ⟨by rfl, ?_⟩) (by assumption) ?_; rotate_left; (focus (intro w hSw; skip; go_simp; (try with_reducible rfl))); (try (refine wpAnyL_norm (by simp only [Act.put, List.setIfInBounds_toArray, List.set_cons_zero, List.set_cons_succ]; rfl) ?_))
        refine wpAnyL_take (i := 17) (v := ?_) rfl (by kernel_rfl) (fun _ _ _ h => h) (Or.inl ⟨by rfl, ?_⟩) (by assumption) ?_; rotate_left; (focus (intro w hSw; (have c := (hSw.cell hpl' (by simp)).trans HC4.out); go_simp; (try with_reducible rfl))); (try (refine wpAnyL_norm (by simp only [Act.put, List.setIfInBounds_toArray, List.set_cons_zero, List.set_cons_succ]; rfl) ?_))
        refine wpAnyL_take (i := 18) (v := ?_) rfl (by kernel_rfl) (fun _ _ _ h => h) (Or.inl ⟨by rfl, ?_⟩) (by assumption) ?_; rotate_left; (focus (intro w hSw; skip; go_simp; (try with_reducible rfl))); (try (refine wpAnyL_norm (by simp only [Act.put, List.setIfInBounds_toArray, List.set_cons_zero, List.set_cons_succ]; rfl) ?_))
        refine wpAnyL_take (i := 19) (v := ?_) rfl (by kernel_rfl) (fun _ _ _ h => h) (Or.inl ⟨by rfl, ?_⟩) (by assumption) ?_; rotate_left; (focus (intro w hSw; skip; go_simp; (try with_reducible rfl))); (try (refine wpAnyL_norm (by simp only [Act.put, List.setIfInBounds_toArray, List.set_cons_zero, List.set_cons_succ]; rfl) ?_))
        refine wpAnyL_take (i := 20) (v := ?_) rfl (by kernel_rfl) (fun _ _ _ h => h) (Or.inl ⟨by rfl, ?_⟩) (by assumption) ?_; rotate_left; (focus (intro w hSw; skip; go_simp; (try with_reducible rfl))); (try (refine wpAnyL_norm (by simp only [Act.put, List.setIfInBounds_toArray, List.set_cons_zero, List.set_cons_succ]; rfl) ?_))
        refine wpAnyL_take (i := 21) (v := ?_) rfl (by kernel_rfl) (fun _ _ _ h => h) (Or.inl ⟨by rfl, ?_⟩) (by assumption) ?_; rotate_left; (focus (intro w hSw; (have c := (hSw.cell hpl' (by simp)).trans HC4.out); go_simp; (try with_reducible rfl))); (try (refine wpAnyL_norm (by simp only [Act.put, List.setIfInBounds_toArray, List.set_cons_zero, List.set_cons_succ]; rfl) ?_))
        refine wpAnyL_take (i := 22) (v := ?_) rfl (by kernel_rfl) (fun _ _ _ h => h) (Or.inl ⟨by rfl, ?_⟩) (by assumption) ?_; rotate_left; (focus (intro w hSw; skip; go_simp; (try with_reducible rfl))); (try (refine wpAnyL_norm (by simp only [Act.put, List.setIfInBounds_toArray, List.set_cons_zero, List.set_cons_succ]; rfl) ?_))
        refine wpAnyL_take (i := 23) (v := ?_) rfl (by kernel_rfl) (fun _ _ _ h => h) (Or.inl ⟨by rfl, ?_⟩) (by assumption) ?_; rotate_left; (focus (intro w hSw; skip; go_simp; (try with_reducible rfl))); (try (refine wpAnyL_norm (by simp only [Act.put, List.setIfInBounds_toArray, List.set_cons_zero, List.set_cons_succ]; rfl) ?_))
        refine wpAnyL_take (i := 24) (v := ?_) rfl (by kernel_rfl) (fun _ _ _ h => h) (Or.inl ⟨by rfl, ?_⟩) (by assumption) ?_; rotate_left; (focus (intro w hSw; skip; go_simp; (try with_reducible rfl))); (try (refine wpAnyL_norm (by simp only [Act.put, List.setIfInBounds_toArray, List.set_cons_zero, List.set_cons_succ]; rfl) ?_))
        refine wpAnyL_take (i := 25) (v := ?_) rfl (by kernel_rfl) (fun _ _ _ h => h) (Or.inl ⟨by rfl, ?_⟩) (by assumption) ?_; rotate_left; (focus (intro w hSw; (have c := (hSw.cell hb2 (by simp)).trans HC8.out); go_simp; (try with_reducible rfl))); (try (refine wpAnyL_norm (by simp only [Act.put, List.setIfInBounds_toArray, List.set_cons_zero, List.set_cons_succ]; rfl) ?_))
        refine wpAnyL_take (i := 26) (v := ?_) rfl (by kernel_rfl) (fun _ _ _ h => h) (Or.inl ⟨by rfl, ?_⟩) (by assumption) ?_; rotate_left; (focus (intro w hSw; skip; go_simp; (try with_reducible rfl))); (try (refine wpAnyL_norm (by simp only [Act.put, List.setIfInBounds_toArray, List.set_cons_zero, List.set_cons_succ]; rfl) ?_))
        refine wpAnyL_take (i := 27) (v := ?_) rfl (by kernel_rfl) (fun _ _ _ h => h) (Or.inl ⟨by rfl, ?_⟩) (by assumption) ?_; rotate_left; (focus (intro w hSw; skip; go_simp; (try with_reducible rfl))); (try (refine wpAnyL_norm (by simp only [Act.put, List.setIfInBounds_toArray, List.set_cons_zero, List.set_cons_succ]; rfl) ?_))
        refine wpAnyL_done (by kernel_rfl) ?_ _
        have F3 := Lib.hid (FR.out.trans0 hHeld)
        cases D
        · have hD3 : ¬ (g.2 : Int) < (v : Int) := by simpa using hD
          have hD4 : ¬ g.2 < v := by simpa using hD2
          go_wp2_with fail
          go_roundw
          case rel => exact ⟨k + 1, by omega, by go_num, HSN.out, F3.out⟩
          case measure => simp [intOf]; omega
        · have hD3 : (g.2 : Int) < (v : Int) := by simpa using hD
          have hD4 : g.2 < v := by simpa using hD2
          go_wp2_with fail
          go_ret
          have hany : y.ks.any P = true := by first | exact HANY.out rfl | exact HANY.out trivial
          exact ⟨by rw [HL.out _ hany]; simp, F0.out.trans0 F3.out⟩
      · rw [decide_eq_false h2, Bool.false_and] at hsn
        have h2I : ¬ (2 : Int) ≤ (z : Int) := by omega
        have h2d : decide ((2 : Int) ≤ (z : Int)) = false := by simp; omega
        have h2n : decide (2 ≤ z) = false := by simp; omega
        have HSN := Lib.hid hsn
        clear hcell hgk hsn hany
        go_upto_region 31 with (fail)
        clear c6 c4
        refine wp_region_L (fun W => Fr [] wr W) [] (by kernel_rfl) (Fr.refl _ _).drew (fun hHeld => ?_)
        refine wpAnyL_take (i := 0) (v := ?_) rfl (by kernel_rfl) (fun _ _ _ h => h) (Or.inl ⟨by rfl, ?_⟩) (by assumption) ?_; rotate_left; (focus (intro w hSw; skip; go_simp; (try with_reducible rfl))); (try (refine wpAnyL_norm (by simp only [Act.put, List.setIfInBounds_toArray, List.set_cons_zero, List.set_cons_succ]; rfl) ?_))
        refine wpAnyL_take (i := 1) (v := ?_) rfl (by kernel_rfl) (fun _ _ _ h => h) (Or.inl ⟨by rfl, ?_⟩) (by assumption) ?_; rotate_left; (focus (intro w hSw; skip; go_simp; (try with_reducible rfl))); (try (refine wpAnyL_norm (by simp only [Act.put, List.setIfInBounds_toArray, List.set_cons_zero, List.set_cons_succ]; rfl) ?_))
        refine wpAnyL_take (i := 2) (v := ?_) rfl (by kernel_rfl) (fun _ _ _ h => h) (Or.inl ⟨by rfl, ?_⟩) (by assumption) ?_; rotate_left; (focus (intro w hSw; skip; go_simp; (try with_reducible rfl))); (try (refine wpAnyL_norm (by simp only [Act.put, List.setIfInBounds_toArray, List.set_cons_zero, List.set_cons_succ]; rfl) ?_))
        refine wpAnyL_take (i := 3) (v := ?_) rfl (by kernel_rfl) (fun _ _ _ h => h) (Or.inl ⟨by rfl, ?_⟩) (by assumption) ?_; rotate_left; (focus (intro w hSw; (have c := (hSw.cell hpl' (by simp)).trans HC4.out); go_simp; (try with_reducible rfl))); (try (refine wpAnyL_norm (by simp only [Act.put, List.setIfInBounds_toArray, List.set_cons_zero, List.set_cons_succ]; rfl) ?_))
        refine wpAnyL_take (i := 4) (v := ?_) rfl (by kernel_rfl) (fun _ _ _ h => h) (Or.inl ⟨by rfl, ?_⟩) (by assumption) ?_; rotate_left; (focus (intro w hSw; skip; go_simp; (try with_reducible rfl))); (try (refine wpAnyL_norm (by simp only [Act.put, List.setIfInBounds_toArray, List.set_cons_zero, List.set_cons_succ]; rfl) ?_))
        refine wpAnyL_take (i := 5) (v := ?_) rfl (by kernel_rfl) (fun _ _ _ h => h) (Or.inl ⟨by rfl, ?_⟩) (by assumption) ?_; rotate_left; (focus (intro w hSw; skip; go_simp; (try with_reducible rfl))); (try (refine wpAnyL_norm (by simp only [Act.put, List.setIfInBounds_toArray, List.set_cons_zero, List.set_cons_succ]; rfl) ?_))
        refine wpAnyL_take (i := 6) (v := ?_) rfl (by kernel_rfl) (fun _ _ _ h => h) (Or.inl ⟨by rfl, ?_⟩) (by assumption) ?_; rotate_left; (focus (intro w hSw; skip; go_simp; (try with_reducible rfl))); (try (refine wpAnyL_norm (by simp only [Act.put, List.setIfInBounds_toArray, List.set_cons_zero, List.set_cons_succ]; rfl) ?_))
        refine wpAnyL_take (i := 7) (v := undef) rfl (by kernel_rfl) (fun _ _ _ h => h) (Or.inr ⟨by rfl, rfl⟩) (by assumption) ?_; (try (refine wpAnyL_norm (by simp only [Act.put, List.setIfInBounds_toArray, List.set_cons_zero, List.set_cons_succ]; rfl) ?_))
        refine wpAnyL_take (i := 8) (v := undef) rfl (by kernel_rfl) (fun _ _ _ h => h) (Or.inr ⟨by rfl, rfl⟩) (by assumption) ?_; (try (refine wpAnyL_norm (by simp only [Act.put, List.setIfInBounds_toArray, List.set_cons_zero, List.set_cons_succ]; rfl) ?_))
        refine wpAnyL_take (i := 9) (v := undef) rfl (by kernel_rfl) (fun _ _ _ h => h) (Or.inr ⟨by rfl, rfl⟩) (by assumption) ?_; (try (refine wpAnyL_norm (by simp only [Act.put, List.setIfInBounds_toArray, List.set_cons_zero, List.set_cons_succ]; rfl) ?_))
        refine wpAnyL_take (i := 10) (v := undef) rfl (by kernel_rfl) (fun _ _ _ h => h) (Or.inr ⟨by rfl, rfl⟩) (by assumption) ?_; (try (refine wpAnyL_norm (by simp only [Act.put, List.setIfInBounds_toArray, List.set_cons_zero, List.set_cons_succ]; rfl) ?_))
        refine wpAnyL_take (i := 11) (v := undef) rfl (by kernel_rfl) (fun _ _ _ h => h) (Or.inr ⟨by rfl, rfl⟩) (by assumption) ?_; (try (refine wpAnyL_norm (by simp only [Act.put, List.setIfInBounds_toArray, List.set_cons_zero, List.set_cons_succ]; rfl) ?_))
        refine wpAnyL_take (i := 12) (v := undef) rfl (by kernel_rfl) (fun _ _ _ h => h) (Or.inr ⟨by rfl, rfl⟩) (by assumption) ?_; (try (refine wpAnyL_norm (by simp only [Act.put, List.setIfInBounds_toArray, List.set_cons_zero, List.set_cons_succ]; rfl) ?_))
        refine wpAnyL_take (i := 13) (v := undef) rfl (by kernel_rfl) (fun _ _ _ h => h) (Or.inr ⟨by rfl, rfl⟩) (by assumption) ?_; (try (refine wpAnyL_norm (by simp only [Act.put, List.setIfInBounds_toArray, List.set_cons_zero, List.set_cons_succ]; rfl) ?_))
        refine wpAnyL_take (i := 14) (v := undef) rfl (by kernel_rfl) (fun _ _ _ h => h) (Or.inr ⟨by rfl, rfl⟩) (by assumption) ?_; (try (refine wpAnyL_norm (by simp only [Act.put, List.setIfInBounds_toArray, List.set_cons_zero, List.set_cons_succ]; rfl) ?_))
        refine wpAnyL_take (i := 15) (v := undef) rfl (by kernel_rfl) (fun _ _ _ h => h) (Or.inr ⟨by rfl, rfl⟩) (by assumption) ?_; (try (refine wpAnyL_norm (by simp only [Act.put, List.setIfInBounds_toArray, List.set_cons_zero, List.set_cons_succ]; rfl) ?_))
        refine wpAnyL_take (i := 16) (v := undef) rfl (by kernel_rfl) (fun _ _ _ h => h) (Or.inr ⟨by rfl, rfl⟩) (by assumption) ?_; (try (refine wpAnyL_norm (by simp only [Act.put, List.setIfInBounds_toArray, List.set_cons_zero, List.set_cons_succ]; rfl) ?_))
        refine wpAnyL_take (i := 17) (v := undef) rfl (by kernel_rfl) (fun _ _ _ h => h) (Or.inr ⟨by rfl, rfl⟩) (by assumption) ?_; (try (refine wpAnyL_norm (by simp only [Act.put, List.setIfInBounds_toArray, List.set_cons_zero, List.set_cons_succ]; rfl) ?_))
        refine wpAnyL_take (i := 18) (v := undef) rfl (by kernel_rfl) (fun _ _ _ h => h) (Or.inr ⟨by rfl, rfl⟩) (by assumption) ?_; (try (refine wpAnyL_norm (by simp only [Act.put, List.setIfInBounds_toArray, List.set_cons_zero, List.set_cons_succ]; rfl) ?_))
        refine wpAnyL_take (i := 19) (v := undef) rfl (by kernel_rfl) (fun _ _ _ h => h) (Or.inr ⟨by rfl, rfl⟩) (by assumption) ?_; (try (refine wpAnyL_norm (by simp only [Act.put, List.setIfInBounds_toArray, List.set_cons_zero, List.set_cons_succ]; rfl) ?_))
        refine wpAnyL_take (i := 20) (v := undef) rfl (by kernel_rfl) (fun _ _ _ h => h) (Or.inr ⟨by rfl, rfl⟩) (by assumption) ?_; (try (refine wpAnyL_norm (by simp only [Act.put, List.setIfInBounds_toArray, List.set_cons_zero, List.set_cons_succ]; rfl) ?_))
        refine wpAnyL_take (i := 21) (v := undef) rfl (by kernel_rfl) (fun _ _ _ h => h) (Or.inr ⟨by rfl, rfl⟩) (by assumption) ?_; (try (refine wpAnyL_norm (by simp only [Act.put, List.setIfInBounds_toArray, List.set_cons_zero, List.set_cons_succ]; rfl) ?_))
        refine wpAnyL_take (i := 22) (v := undef) rfl (by kernel_rfl) (fun _ _ _ h => h) (Or.inr ⟨by rfl, rfl⟩) (by assumption) ?_; (try (refine wpAnyL_norm (by simp only [Act.put, List.setIfInBounds_toArray, List.set_cons_zero, List.set_cons_succ]; rfl) ?_))
        refine wpAnyL_take (i := 23) (v := undef) rfl (by kernel_rfl) (fun _ _ _ h => h) (Or.inr ⟨by rfl, rfl⟩) (by assumption) ?_; (try (refine wpAnyL_norm (by simp only [Act.put, List.setIfInBounds_toArray, List.set_cons_zero, List.set_cons_succ]; rfl) ?_))
        refine wpAnyL_take (i := 24) (v := undef) rfl (by kernel_rfl) (fun _ _ _ h => h) (Or.inr ⟨by rfl, rfl⟩) (by assumption) ?_; (try (refine wpAnyL_norm (by simp only [Act.put, List.setIfInBounds_toArray, List.set_cons_zero, List.set_cons_succ]; rfl) ?_))
        refine wpAnyL_take (i := 25) (v := undef) rfl (by kernel_rfl) (fun _ _ _ h => h) (Or.inr ⟨by rfl, rfl⟩) (by assumption) ?_; (try (refine wpAnyL_norm (by simp only [Act.put, List.setIfInBounds_toArray, List.set_cons_zero, List.set_cons_succ]; rfl) ?_))
        refine wpAnyL_take (i := 26) (v := undef) rfl (by kernel_rfl) (fun _ _ _ h => h) (Or.inr ⟨by rfl, rfl⟩) (by assumption) ?_; (try (refine wpAnyL_norm (by simp only [Act.put, List.setIfInBounds_toArray, List.set_cons_zero, List.set_cons_succ]; rfl) ?_))
        refine wpAnyL_take (i := 27) (v := ?_) rfl (by kernel_rfl) (fun _ _ _ h => h) (Or.inl ⟨by rfl, ?_⟩) (by assumption) ?_; rotate_left; (focus (intro w hSw; skip; go_simp; (try with_reducible rfl))); (try (refine wpAnyL_norm (by simp only [Act.put, List.setIfInBounds_toArray, List.set_cons_zero, List.set_cons_succ]; rfl) ?_))
        refine wpAnyL_done (by kernel_rfl) ?_ _
        have F3 := Lib.hid (FR.out.trans0 hHeld)
        go_wp2_with fail
        go_roundw
        case rel => exact ⟨k + 1, by omega, by go_num, HSN.out, F3.out⟩
        case measure => simp [intOf]; omega
    · obtain rfl : k = n := by omega
      have hno : y.ks.any P = false := by have := HNO.out; rwa [← HN.out, List.take_length] at this
      go_wp2_with fail
      go_ret
      exact ⟨by rw [HL.out _ hno]; simp, F0.out.trans0 FR.out⟩
set_option maxHeartbeats 4000000 in
set_option maxRecDepth 100000 in
theorem rfault_O (w : World) (B p ha hs : Nat) (y : Rx) (gv ev av tv : Value) (hh : Rst w B p y gv ev av tv) (e : Ev) (hk : ¬ e.kind = 2 ∧ ¬ e.kind = 3 ∧ ¬ e.kind = 6 ∧ ¬ e.kind = 4 ∧ ¬ e.kind = 7 ∧ ¬ e.kind = 11 ∧ ¬ e.kind = 10) :
    Calls Try.prog 40 #[.pointer (some ⟨p, 0, none⟩), .agg #[.int .u32 ha, .int .u32 hs], .agg (evl e).toArray] w fun r w' => r = .returned (.int .i64 0) ∧ Fr [] w w' := by
  obtain ⟨ek, eh, ev', en, ea, es⟩ := e
  dsimp only at hk
  (try subst hk)
  obtain ⟨ga, gc, rfl, hgr⟩ := hh.gr
  obtain ⟨ta, tc, rfl, htr⟩ := hh.tr
  obtain ⟨na, nc, rfl, hnr⟩ := hh.er
  have A0 := (At.new w 27 #[.int .u32 ha, .int .u32 hs]).old (.cells (evl ⟨ek, eh, ev', en, ea, es⟩).toArray 41)
  have E0 := At.new (w.alloc (.cells #[.int .u32 ha, .int .u32 hs] 27)) 41 (evl ⟨ek, eh, ev', en, ea, es⟩).toArray
  have F0 := (show Fr [] w ((w.alloc (.cells #[.int .u32 ha, .int .u32 hs] 27)).alloc (.cells (evl ⟨ek, eh, ev', en, ea, es⟩).toArray 41)) from (by repeat (first | exact Fr.refl _ _ | assumption | refine Fr.trans0 ?_ (by assumption) | refine Fr.drewN ?_ _ | refine Fr.alloc ?_ _ | refine Fr.drew ?_)))
  rw [World.size_alloc] at E0
  have HH := hh.fr0 F0
  have HIR := Lib.hid (show (Try.prog.info? 27).map (·.size) = some 2 by kernel_rfl)
  have HG := hgr.fr0 F0
  have HT := htr.fr0 F0
  have HE := hnr.fr0 F0
  clear hh hgr htr hnr
  obtain ⟨w1, hw1⟩ : ∃ W, (w.alloc (.cells #[.int .u32 ha, .int .u32 hs] 27)).alloc (.cells (evl ⟨ek, eh, ev', en, ea, es⟩).toArray 41) = W := ⟨_, rfl⟩
  rw [hw1] at A0 E0 F0 HH HG HT HE
  unfold evl at E0
  dsimp only at E0
  have HP := Lib.hid HH.at_
  have HH := Lib.hid HH
  have HG := Lib.hid HG
  have HT := Lib.hid HT
  have HE := Lib.hid HE
  have F0 := Lib.hid F0
  have r0 := A0.cell 0
  have r1 := A0.cell 1
  have z0 := E0.cell 0
  have z1 := E0.cell 1
  have z3 := E0.cell 3
  have z4 := E0.cell 4
  have z5 := E0.cell 5
  have p0 := HP.out.cell 0
  have p1 := HP.out.cell 1
  have p2 := HP.out.cell 2
  have p3 := HP.out.cell 3
  have p4 := HP.out.cell 4
  have p6 := HP.out.cell 6
  simp only [List.getElem?_toArray, List.getElem?_cons_zero, List.getElem?_cons_succ] at r0 r1 z0 z1 z3 z4 z5 p0 p1 p2 p3 p4 p6
  have A0 := Lib.hid A0
  have E0 := Lib.hid E0
  obtain ⟨k1, k2, k3, k4, k5, k6, k7⟩ := hk
  have b1 : (ek == 2) = false := by simpa using k1
  have b2 : (ek == 3) = false := by simpa using k2
  have b3 : (ek == 6) = false := by simpa using k3
  have b4 : (ek == 4) = false := by simpa using k4
  have b5 : (ek == 7) = false := by simpa using k5
  have b6 : (ek == 11) = false := by simpa using k6
  have b7 : (ek == 10) = false := by simpa using k7
  go_enter Try.func40, Try.ntmps40
  go_upto_region 1 with (fail)
  clear hw1
  go_wp2_with fail
  go_ret
  exact ⟨rfl, F0.out⟩
theorem rfault_any (w : World) (B p ha hs : Nat) (y : Rx) (gv ev av tv : Value) (hh : Rst w B p y gv ev av tv) (e : Ev) (hok : e.Ok) (h1 : ha < 4294967296) (h2 : hs < 4294967296) (hn : y.gs.length ≤ 1000) (hkn : y.ks.length ≤ 1000) (hen : y.en.length ≤ 1000) (hla : y.la ≤ 1000) (hra : ∀ g ∈ y.gs, g.a < 4294967296 ∧ g.s < 4294967296) :
    Calls Try.prog 40 #[.pointer (some ⟨p, 0, none⟩), .agg #[.int .u32 ha, .int .u32 hs], .agg (evl e).toArray] w fun r w' => r = .returned (.int .i64 (faultR ha hs y e : Nat)) ∧ Fr [] w w' := by
  unfold faultR
  by_cases k2 : e.kind = 2
  · rw [if_pos k2]
    exact rfault_G w B p ha hs y gv ev av tv hh e k2 hok h1 h2 hn hra
  rw [if_neg k2]
  by_cases k3 : e.kind = 3
  · rw [if_pos k3]
    exact rfault_F w B p ha hs y gv ev av tv hh e k3 hok h1 h2 hn hkn hen hla
  rw [if_neg k3]
  by_cases k6 : e.kind = 6
  · rw [if_pos k6]
    exact rfault_B w B p ha hs y gv ev av tv hh e k6 hok h1 h2 hn hkn hen hla
  rw [if_neg k6]
  by_cases k4 : e.kind = 4
  · rw [if_pos k4]
    exact rfault_L w B p ha hs y gv ev av tv hh e k4 hok h1 h2 hn hkn hen hla
  rw [if_neg k4]
  by_cases k7 : e.kind = 7
  · rw [if_pos k7]
    exact rfault_E w B p ha hs y gv ev av tv hh e k7 hok h1 h2 hn hkn hen hla
  rw [if_neg k7]
  by_cases k11 : e.kind = 11
  · rw [if_pos k11]
    exact rfault_A w B p ha hs y gv ev av tv hh e k11 hok h1 h2 hn hkn hen hla
  rw [if_neg k11]
  by_cases k10 : e.kind = 10
  · rw [if_pos k10]
    exact rfault_D w B p ha hs y gv ev av tv hh e k10 hok h1 h2 hn hkn hen hla
  rw [if_neg k10]
  exact rfault_O w B p ha hs y gv ev av tv hh e ⟨k2, k3, k6, k4, k7, k11, k10⟩
end Go.Proofs.Ytkbdoiefgmbikaa
