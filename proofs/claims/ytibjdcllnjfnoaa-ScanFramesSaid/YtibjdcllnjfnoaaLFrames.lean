/-
  ScanFrames: of any frame the stale capabilities are made not valid, as the reference says; for any regions painted, twenty at most, any frame. No condition.
-/




import Derived.Test.YtibjdcllnjfnoaaPainted
import Derived.Test.YtibjdcllnjfnoaaFrames
import Derived.Test.YtibjdcllnjfnoaaRefF
import Derived.Deep.CutBlock
import Derived.Deep.DeepCutAuto
set_option linter.unusedVariables false
namespace Go.Proofs.Ytibjdcllnjfnoaa
open Go.ChangeShapes Go.WideShapes Go.ChangeAt Go.RowKit
namespace scanFrames
theorem Elems.fr {w w' : World} {a : Option Addr} {len : Nat} {ls : List Leaf} (h : Elems w a len ls) (f : Fr [] w w') : Elems w' a len ls := by
  obtain ⟨h1, h2 | ⟨b, off, e, hb, hc⟩⟩ := h
  · exact ⟨h1, .inl h2⟩
  · refine ⟨h1, .inr ⟨b, off, e, Nat.lt_of_lt_of_le hb f.size, fun i hi => ?_⟩⟩
    obtain ⟨cs, hf, hj⟩ := hc i hi
    exact ⟨cs, hf, fun j hjl => (f.cell (a := ⟨b, off + (i * ls.length + j), none⟩) hb (by simp)).trans (hj j hjl)⟩
theorem frame_of : ∀ (n : Nat) (cs : List Value), Fits (List.replicate n [Leaf.i .u32, .i .u8, .i .u16, .i .u16, .i .u16, .i .u16, .i .u32, .b]).flatten cs → ∃ fr : List Cp, cs = cat fr ∧ fr.length = n ∧ ∀ c ∈ fr, c.Ok
  | 0, cs, h => ⟨[], by rw [show cs = [] from Fits.nil h]; rfl, rfl, by simp⟩
  | n + 1, cs, h => by
    rw [List.replicate_succ, List.flatten_cons] at h
    have h8 : Fits [Leaf.i .u32, .i .u8, .i .u16, .i .u16, .i .u16, .i .u16, .i .u32, .b] (cs.take 8) := ⟨by have := h.len; simp at this ⊢; omega, fun j l hj => by
      have hj8 : j < 8 := by have := (List.getElem?_eq_some_iff.1 hj).1; simpa using this
      obtain ⟨v, hv, hok⟩ := h.at_ j l (by rw [List.getElem?_append_left (by simpa using hj8)]; exact hj)
      exact ⟨v, by rw [List.getElem?_take_of_lt hj8]; exact hv, hok⟩⟩
    have hr : Fits (List.replicate n [Leaf.i .u32, .i .u8, .i .u16, .i .u16, .i .u16, .i .u16, .i .u32, .b]).flatten (cs.drop 8) := ⟨by have := h.len; rw [List.length_append] at this; rw [List.length_drop, this]; simp, fun j l hj => by
      obtain ⟨v, hv, hok⟩ := h.at_ (8 + j) l (by rw [List.getElem?_append_right (by simp)]; simpa using hj)
      exact ⟨v, by rw [List.getElem?_drop]; exact hv, hok⟩⟩
    obtain ⟨c, hc, hok⟩ := fitsC h8
    obtain ⟨fr, hfr, hlen, hall⟩ := frame_of n _ hr
    refine ⟨c :: fr, ?_, by rw [List.length_cons, hlen], fun d hd => ?_⟩
    · rw [← List.take_append_drop 8 cs, hc, hfr]; rfl
    · rcases List.mem_cons.1 hd with rfl | hd
      · exact hok
      · exact hall d hd
set_option maxHeartbeats 2000000 in
set_option maxRecDepth 100000 in
theorem walk_n (a0 : Option Addr) (len0 cap0 : Nat) (fr : List Cp) (hl : fr.length = 17) (hok : ∀ c ∈ fr, c.Ok) (w : World) (w0 : Elems w a0 len0 [.i .u32, .i .u32]) :
    Calls Try.prog 5 #[.slice a0 len0 cap0, .agg (cat fr).toArray] w fun e w' => e = .returned (.bool true) ∧ Fr [] w w' := by
  have hz := fun w => zeroFrame w
  have hZ : (cat zf).toArray.size = 17 * 8 := cat_size rfl
  obtain ⟨Z, hZe⟩ : ∃ Z, (cat zf).toArray = Z := ⟨_, rfl⟩
  rw [hZe] at hz hZ
  have HZ := Lib.hid hZ
  have hcur : ∀ c ∈ fr, c.cur < 4294967296 := fun c hc => (hok c hc).cur
  have HCU := Lib.hid hcur
  have HLN := Lib.hid hl
  have CP := Lib.hid fun W h => painted_any W a0 len0 cap0 h
  have HEL := Lib.hid (show Elems (w.alloc (.cells (cat fr).toArray 49)) a0 len0 [.i .u32, .i .u32] from Elems.fr w0 (by repeat (first | exact Fr.refl _ _ | assumption | refine Fr.trans0 ?_ (by assumption) | refine Fr.drewN ?_ _ | refine Fr.alloc ?_ _ | refine Fr.drew ?_)))
  have A0 := Lib.hid (At.new w 49 (cat fr).toArray)
  have F0 := Lib.hid (show Fr [] w (w.alloc (.cells (cat fr).toArray 49)) from (by repeat (first | exact Fr.refl _ _ | assumption | refine Fr.trans0 ?_ (by assumption) | refine Fr.drewN ?_ _ | refine Fr.alloc ?_ _ | refine Fr.drew ?_)))
  have HFI := Lib.hid (show (Try.prog.info? 49).map (·.size) = some (cat fr).toArray.size by rw [infoFrame, cat_size hl])
  obtain ⟨A, hA⟩ : ∃ A, (cat fr).toArray = A := ⟨_, rfl⟩
  have HA := Lib.hid hA
  rw [hA] at HEL A0 F0 HFI ⊢
  clear hl hok hcur hA hZ hZe w0
  go_enter Try.func5, Try.ntmps5
  go_wp2_with fail
  refine (CP.out _ HEL.out).mono ?_
  rintro e w2 ⟨f, pp, p, g, v, rfl, hP, hB, hf2⟩
  obtain ⟨av, cv, rfl, hcv⟩ := own_slice hB
  have hfa : Fr [] w2 (w2.alloc (.cells #[.slice av 256 cv] 27)) := (by repeat (first | exact Fr.refl _ _ | assumption | refine Fr.trans0 ?_ (by assumption) | refine Fr.drewN ?_ _ | refine Fr.alloc ?_ _ | refine Fr.drew ?_))
  have P3 := Lib.hid (hP.fr hfa (by simp) (by simp) (by simp))
  have B3 := Lib.hid (own_fr0 hB hfa)
  have A3 := Lib.hid (At.new w2 27 #[.slice av 256 cv])
  have G3 := Lib.hid ((A0.out.fr hf2 (by simp)).fr hfa (by simp))
  have F3 := Lib.hid ((F0.out.trans0 hf2).trans0 hfa)
  clear hP hB hf2 hfa CP A0 F0 HEL
  have CS := Lib.hid (sframe_any (Hs.of P3.out) (Nat.le_refl _) fr HLN.out HCU.out)
  have CR := Lib.hid fun (W : World) (hW : Fr [] (w2.alloc (.cells #[.slice av 256 cv] 27)) W) => (r17frame_any W 0 _ 256 f (own_fr0 B3.out hW) (by omega) fr HLN.out HCU.out)
  have hlm : ∀ hs, (fr.map (cln hs)).length = 17 := fun hs => by rw [List.length_map]; exact HLN.out
  obtain ⟨hs, hhs⟩ : ∃ hs, hasP 256 f = hs := ⟨_, rfl⟩
  rw [hhs, HA.out] at CS CR
  have hml := hlm hs
  obtain ⟨M, hM⟩ : ∃ M, fr.map (cln hs) = M := ⟨_, rfl⟩
  rw [hM] at CS CR hml
  have FEQ := frame_eq M M hml hml
  rw [eqF_self] at FEQ
  have HDI := Lib.hid (show (Try.prog.info? 49).map (·.size) = some (cat M).toArray.size by rw [infoFrame, cat_size hml])
  have HQ := Lib.hid (show Z.size = (cat M).toArray.size by rw [HZ.out, cat_size hml])
  have HAll := Lib.hid (cat_all M)
  obtain ⟨D, hD⟩ : ∃ D, (cat M).toArray = D := ⟨_, rfl⟩
  obtain ⟨s, hsu⟩ : ∃ s, sums hs fr = s := ⟨_, rfl⟩
  have hsl : s ≤ 17 := by rw [← hsu, ← HLN.out]; exact sums_le hs fr
  rw [hD] at CS CR FEQ HDI HQ HAll
  rw [hsu] at CS CR
  have ca := A3.out.cell 0
  have ql := A3.out.lt
  simp only [List.getElem?_toArray, List.getElem?_cons_zero] at ca
  obtain ⟨w3, hw3⟩ : ∃ W, w2.alloc (.cells #[.slice av 256 cv] 27) = W := ⟨_, rfl⟩
  have G3u := G3
  rw [hw3] at CS CR P3 B3 A3 G3 F3 ca ql
  obtain ⟨q, hq⟩ : ∃ q, w2.heap.size = q := ⟨_, rfl⟩
  rw [hq] at A3 ca ql
  have HW3 := Lib.hid hw3
  have HQQ := Lib.hid hq
  clear hhs hM hml hD hsu hw3 hlm hq
  go_wp2_with (refine wpList_load_all rfl 49 (.tmp 3) rfl w.heap.size rfl 49 A _ G3u.out Try.underlying49 rfl HFI.out ?_)
  rw [HW3.out, HQQ.out]
  refine (CS.out).mono ?_
  rintro e w4 ⟨rfl, hf4⟩
  have G4 := Lib.hid (G3.out.fr hf4 (by simp))
  have A4 := Lib.hid (A3.out.fr hf4 (by simp))
  have F4 := Lib.hid hf4
  clear hf4 CS
  have caW : ∀ W : World, Fr [] w3 W → W.cell? ⟨q, 0, none⟩ = some (.slice av 256 cv) := fun W hW => (hW.cell (a := ⟨q, 0, none⟩) ql (by simp)).trans ca
  have HCA := Lib.hid caW
  clear caW ca G3u
  go_wp2_with (first | (refine wpList_store_all rfl 49 (.tmp 7) (.tmp 22) rfl _ D rfl rfl 49 Z (At.newq rfl) HDI.out HQ.out HAll.out ?_; intro w5 hA5 hF5; have hf35 : Fr [] w3 w5 := (F4.out.alloc (.cells Z 49)).trans hF5 (by have := F4.out.size; simp <;> omega); have ca5 := HCA.out w5 hf35) | (refine wpList_load_all rfl 49 (.tmp 3) rfl w.heap.size rfl 49 A _ (G3.out.fr hf35 (by simp)) Try.underlying49 rfl HFI.out ?_))
  have D5 := Lib.hid hA5
  have F5 := Lib.hid hf35
  have hq5 := hA5.lt
  obtain ⟨g1, hg1⟩ : ∃ q, w4.heap.size = q := ⟨_, rfl⟩
  rw [hg1] at D5 hq5 ⊢
  clear hA5 hF5 hf35 ca5 hg1
  refine (CR.out _ F5.out).mono ?_
  rintro e w6 ⟨rfl, hf6⟩
  have D6 := Lib.hid (D5.out.fr hf6 (by simp))
  have F6 := Lib.hid (F5.out.trans0 hf6)
  have hq6 := D6.out.lt
  clear hf6 CR D5 F5 hq5
  go_wp2_with (first | (refine wpList_store_all rfl 49 (.tmp 9) (.tmp 28) rfl _ D rfl rfl 49 Z (At.newq rfl) HDI.out HQ.out HAll.out ?_; intro w7 hA7 hF7) | (refine wpList_load_all rfl 49 (.tmp 7) rfl g1 rfl 49 D _ ((D6.out.old (.cells Z 49)).fr hF7 (by simp <;> omega)) Try.underlying49 rfl HDI.out ?_) | (refine wpList_load_all rfl 49 (.tmp 9) rfl _ rfl 49 D _ hA7 Try.underlying49 rfl HDI.out ?_))
  have F7 := Lib.hid ((F6.out.alloc (.cells Z 49)).trans hF7 (by have := F6.out.size; simp <;> omega))
  clear hA7 hF7
  refine (works_any _).mono ?_
  rintro e w8 ⟨rfl, hf8⟩
  go_wp2_with fail
  go_ret
  exact ⟨rfl, F3.out.trans0 (F7.out.trans0 hf8)⟩
theorem walk (a0 : Option Addr) (len0 cap0 : Nat) (cs1 : List Value) (w : World) (w0 : Elems w a0 len0 [.i .u32, .i .u32]) (w1 : Fits (List.replicate 17 [Leaf.i .u32, .i .u8, .i .u16, .i .u16, .i .u16, .i .u16, .i .u32, .b]).flatten cs1) :
    Calls Try.prog 5 #[.slice a0 len0 cap0, .agg cs1.toArray] w fun e w' => e = .returned (.bool true) ∧ Fr [] w w' := by
  obtain ⟨fr, rfl, hl, hok⟩ := frame_of 17 cs1 w1
  exact walk_n a0 len0 cap0 fr hl hok w w0
theorem laidOut : laidOutB Try.prog = true := by kernel_rfl
set_option maxRecDepth 100000 in
theorem lifted (os : Os) (started : os.Started) (H : Type) (enc : TypeId × Value → H) :
    ReturnsInHanded {} Try.checked os 5 .any (Rows.scanFramesSpec.pre6 enc Try.prog Try.f5 Rows.scanFramesRow.domain false) (Rows.scanFramesSpec.post enc Try.prog Try.f5 false true false false) := by
  refine returnsInHanded_of_change (C := Try.checked) own started (by kernel_rfl) Try.func5
    (ChangeSpec.witness6 (enc := enc) (C := Try.checked) false ⟨#[], #[.slice none 0 0, .agg #[.int .u32 0, .int .u8 0, .int .u16 0, .int .u16 0, .int .u16 0, .int .u16 0, .int .u32 0, .bool false, .int .u32 0, .int .u8 0, .int .u16 0, .int .u16 0, .int .u16 0, .int .u16 0, .int .u32 0, .bool false, .int .u32 0, .int .u8 0, .int .u16 0, .int .u16 0, .int .u16 0, .int .u16 0, .int .u32 0, .bool false, .int .u32 0, .int .u8 0, .int .u16 0, .int .u16 0, .int .u16 0, .int .u16 0, .int .u32 0, .bool false, .int .u32 0, .int .u8 0, .int .u16 0, .int .u16 0, .int .u16 0, .int .u16 0, .int .u32 0, .bool false, .int .u32 0, .int .u8 0, .int .u16 0, .int .u16 0, .int .u16 0, .int .u16 0, .int .u32 0, .bool false, .int .u32 0, .int .u8 0, .int .u16 0, .int .u16 0, .int .u16 0, .int .u16 0, .int .u32 0, .bool false, .int .u32 0, .int .u8 0, .int .u16 0, .int .u16 0, .int .u16 0, .int .u16 0, .int .u32 0, .bool false, .int .u32 0, .int .u8 0, .int .u16 0, .int .u16 0, .int .u16 0, .int .u16 0, .int .u32 0, .bool false, .int .u32 0, .int .u8 0, .int .u16 0, .int .u16 0, .int .u16 0, .int .u16 0, .int .u32 0, .bool false, .int .u32 0, .int .u8 0, .int .u16 0, .int .u16 0, .int .u16 0, .int .u16 0, .int .u32 0, .bool false, .int .u32 0, .int .u8 0, .int .u16 0, .int .u16 0, .int .u16 0, .int .u16 0, .int .u32 0, .bool false, .int .u32 0, .int .u8 0, .int .u16 0, .int .u16 0, .int .u16 0, .int .u16 0, .int .u32 0, .bool false, .int .u32 0, .int .u8 0, .int .u16 0, .int .u16 0, .int .u16 0, .int .u16 0, .int .u32 0, .bool false, .int .u32 0, .int .u8 0, .int .u16 0, .int .u16 0, .int .u16 0, .int .u16 0, .int .u32 0, .bool false, .int .u32 0, .int .u8 0, .int .u16 0, .int .u16 0, .int .u16 0, .int .u16 0, .int .u32 0, .bool false, .int .u32 0, .int .u8 0, .int .u16 0, .int .u16 0, .int .u16 0, .int .u16 0, .int .u32 0, .bool false]], []⟩ 8 (by kernel_rfl) (by kernel_rfl) (by kernel_rfl) (by kernel_rfl)) ?_
  intro W base args ds gs before hval0 hW hcnd _
  have hval : ∀ (j : Nat) t v, Try.f5.params[j]? = some t → args[j]? = some v → Value.okWide Try.prog W .any base t v := hval0
  have hW' := hW
  obtain ⟨p, q, hA0, hV, rfl, hfz, hnd⟩ := hW
  have hA : DataW.TrodAll enc Try.prog W 0 (fun _ => true) true Try.f5.params.toList args.toList ds p := hA0
  rw [Try.params5] at hA hval
  obtain ⟨v0, vs0, d0, ds0, p0, q0, hargs, rfl, rfl, h0, r0⟩ := trodAll_cons hA
  obtain ⟨v1, vs1, d1, ds1, p1, q1, rfl, rfl, rfl, h1, r1⟩ := trodAll_cons r0
  obtain ⟨rfl, rfl, rfl⟩ := trodAll_nil r1
  obtain rfl : args = #[v0, v1] := by cases args; simp_all
  obtain ⟨rfl, rfl⟩ := trodVars_none hV
  obtain ⟨a0, len0, cap0, rfl⟩ := okWide_slice Try.underlying22 (hval 0 22 v0 rfl rfl)
  have k0 := h0
  have lt0 : ∀ x ∈ p0, x.block < W.heap.size := by obtain ⟨m, hm⟩ := k0; exact DataW.trod_lt m _ _ _ hm
  have w0 : Elems W a0 len0 [.i .u32, .i .u32] := by
    obtain ⟨fuel, hf⟩ := h0
    exact open_elems (n := 20) Try.underlying22 (by kernel_rfl : flat Try.prog 20 43 = some [.i .u32, .i .u32]) (by kernel_rfl) (by decide) hf
  have k1 := h1
  have lt1 : ∀ x ∈ p1, x.block < W.heap.size := by obtain ⟨m, hm⟩ := k1; exact DataW.trod_lt m _ _ _ hm
  obtain ⟨cs1, rfl, w1⟩ := open_flat (n := 20) (by kernel_rfl : flat Try.prog 20 49 = some [.i .u32, .i .u8, .i .u16, .i .u16, .i .u16, .i .u16, .i .u32, .b, .i .u32, .i .u8, .i .u16, .i .u16, .i .u16, .i .u16, .i .u32, .b, .i .u32, .i .u8, .i .u16, .i .u16, .i .u16, .i .u16, .i .u32, .b, .i .u32, .i .u8, .i .u16, .i .u16, .i .u16, .i .u16, .i .u32, .b, .i .u32, .i .u8, .i .u16, .i .u16, .i .u16, .i .u16, .i .u32, .b, .i .u32, .i .u8, .i .u16, .i .u16, .i .u16, .i .u16, .i .u32, .b, .i .u32, .i .u8, .i .u16, .i .u16, .i .u16, .i .u16, .i .u32, .b, .i .u32, .i .u8, .i .u16, .i .u16, .i .u16, .i .u16, .i .u32, .b, .i .u32, .i .u8, .i .u16, .i .u16, .i .u16, .i .u16, .i .u32, .b, .i .u32, .i .u8, .i .u16, .i .u16, .i .u16, .i .u16, .i .u32, .b, .i .u32, .i .u8, .i .u16, .i .u16, .i .u16, .i .u16, .i .u32, .b, .i .u32, .i .u8, .i .u16, .i .u16, .i .u16, .i .u16, .i .u32, .b, .i .u32, .i .u8, .i .u16, .i .u16, .i .u16, .i .u16, .i .u32, .b, .i .u32, .i .u8, .i .u16, .i .u16, .i .u16, .i .u16, .i .u32, .b, .i .u32, .i .u8, .i .u16, .i .u16, .i .u16, .i .u16, .i .u32, .b, .i .u32, .i .u8, .i .u16, .i .u16, .i .u16, .i .u16, .i .u32, .b, .i .u32, .i .u8, .i .u16, .i .u16, .i .u16, .i .u16, .i .u32, .b]) (by kernel_rfl) (hval 1 49 v1 rfl rfl) h1
  clear hA0 hval0
  refine (walk a0 len0 cap0 cs1 W w0 w1).mono fun e W' ⟨he, hg⟩ => ?_
  subst he
  have bel := hg.below
  exact ⟨_, rfl, _, _, _, [], _, [], hW', trodAll_mk1 (shut_bool Try.underlying4 _), (trodAll_cons_mk (Below.trod laidOut (by kernel_rfl) (of_decide_eq_true (by kernel_rfl)) k0 bel lt0) (trodAll_cons_mk (Below.trod laidOut (by kernel_rfl) (of_decide_eq_true (by kernel_rfl)) k1 bel lt1) trodAll_mk0)), rfl, bel.frame _, fun h => by cases h⟩
theorem over : Rows.scanFramesRow.holds Try.pinned (OpenSpec.ofChange Rows.scanFramesSpec) :=
  OpenClaim.holds_of_wide 5 Try.f5 rfl rfl rfl rfl rfl rfl rfl ⟨rfl, rfl, rfl, rfl, rfl⟩ rfl rfl rfl rfl rfl (by kernel_rfl) Try.func5 (by kernel_rfl)
    (of_decide_eq_true (by kernel_rfl)) (by unfold Func.isWrapper; first | (rw [if_pos (by decide +kernel)]; kernel_rfl) | (rw [if_neg (by decide +kernel)]; exact ⟨rfl, rfl⟩))
    (fun os started H enc _ => lifted os started H enc)
/-- The statement, proved. -/
theorem proved : Rows.ScanFramesSaid :=
  over
end scanFrames
end Go.Proofs.Ytibjdcllnjfnoaa
