/-
  What the reference of layer 17 does with a frame. Condition: cursors in their type's range; the frame has seventeen capabilities.
-/




import Derived.Test.YtibjdcllnjfnoaaRefC
import Derived.Test.YtibjdcllnjfnoaaFrameEq
set_option linter.unusedVariables false
namespace Go.Proofs.Ytibjdcllnjfnoaa
open Go.ChangeShapes Go.WideShapes Go.ChangeAt Go.RowKit
theorem upto_no (hs : Int → Bool) (l : List Cp) (k : Nat) (c : Cp) (h : l[k]? = some c) (hc : cln hs c = c) : upto hs l (k + 1) = upto hs l k := by
  rw [← upto_set hs l k c h, hc]
  have h2 := upto_get hs l k c h
  obtain ⟨hlt, he⟩ := List.getElem?_eq_some_iff.1 h2
  conv => lhs; rw [← he]
  exact List.set_getElem_self hlt
theorem cln_yes (hs : Int → Bool) (c : Cp) (h : stB hs c = true) : cln hs c = c.off ∧ sOne hs c = 1 := by unfold cln sOne; rw [h]; simp
theorem cln_no (hs : Int → Bool) (c : Cp) (h : stB hs c = false) : cln hs c = c ∧ sOne hs c = 0 := by unfold cln sOne; rw [h]; simp
set_option maxHeartbeats 2000000 in
set_option maxRecDepth 100000 in
theorem r17frame_any (w : World) (b : Nat) (v : Value) (n : Nat) (f : Nat → Bool) (h : Bs b w v n f) (hn : n ≤ 16384) (fr : List Cp) (hl : fr.length = 17) (hok : ∀ c ∈ fr, c.cur < 4294967296) :
    Calls Try.prog 19 #[.agg (cat fr).toArray, .agg #[v]] w fun r w' => r = .returned (.tuple #[.agg (cat (fr.map (cln (hasP n f)))).toArray, .int .i64 (sums (hasP n f) fr : Nat)]) ∧ Fr [] w w' := by
  obtain ⟨av, cv, rfl, hcv⟩ := own_slice h
  have C := Lib.hid fun (W : World) (hW : Fr [] w W) c hc => r17stale_any W b _ n f (own_fr0 h hW) hn c hc
  obtain ⟨hs, hhs⟩ : ∃ hs, hasP n f = hs := ⟨_, rfl⟩
  rw [hhs] at C ⊢
  have hz := fun w => zeroFrame w
  have ZI := Lib.hid (show (Try.prog.info? 49).map (·.size) = some (cat zf).toArray.size by rw [infoFrame, cat_size (n := 17) rfl])
  have hZ : (cat zf).toArray.size = 17 * 8 := cat_size rfl
  obtain ⟨Z, hZe⟩ : ∃ Z, (cat zf).toArray = Z := ⟨_, rfl⟩
  rw [hZe] at hz ZI hZ
  have hml : (fr.map (cln hs)).length = 17 := by rw [List.length_map]; exact hl
  have HI := Lib.hid (show (Try.prog.info? 49).map (·.size) = some (cat (fr.map (cln hs))).toArray.size by rw [infoFrame, cat_size hml])
  have HQ := Lib.hid (show Z.size = (cat (fr.map (cln hs))).toArray.size by rw [hZ, cat_size hml])
  have HAll := Lib.hid (cat_all (fr.map (cln hs)))
  have HUA := Lib.hid (show upto hs fr (16 + 1) = fr.map (cln hs) by have := upto_all hs fr; rw [hl] at this; exact this)
  have HTA := Lib.hid (show fr.take (16 + 1) = fr by rw [show 16 + 1 = fr.length from hl.symm, List.take_length])
  obtain ⟨D, hD⟩ : ∃ D, (cat (fr.map (cln hs))).toArray = D := ⟨_, rfl⟩
  have HD := Lib.hid hD
  rw [hD] at HI HQ HAll ⊢
  obtain ⟨A, hA⟩ : ∃ A, (cat fr).toArray = A := ⟨_, rfl⟩
  obtain ⟨X, hX⟩ : ∃ X, ((w.alloc (.cells A 49)).alloc (.cells #[.slice av n cv] 27)).alloc (.cells Z 49) = X := ⟨_, rfl⟩
  have B0 : At X w.heap.size 49 (cat (upto hs fr 0)).toArray := by rw [← hX, upto_zero, hA]; exact ((At.new w 49 A).old _).old _
  have B1 : At X (w.heap.size + 1) 27 #[.slice av n cv] := by
    rw [← hX]; refine At.old ?_ _
    have := At.new (w.alloc (.cells A 49)) 27 #[.slice av n cv]
    rw [World.size_alloc] at this
    exact this
  have B2 : At X (w.heap.size + 1 + 1) 49 Z := by
    rw [← hX]
    have := At.new ((w.alloc (.cells A 49)).alloc (.cells #[.slice av n cv] 27)) 49 Z
    rw [World.size_alloc, World.size_alloc] at this
    exact this
  have FX : Fr [] w X := by rw [← hX]; exact (by repeat (first | exact Fr.refl _ _ | assumption | refine Fr.trans0 ?_ (by assumption) | refine Fr.drewN ?_ _ | refine Fr.alloc ?_ _ | refine Fr.drew ?_))
  have HB0 := Lib.hid B0
  have HB1 := Lib.hid B1
  have HB2 := Lib.hid B2
  have HFX := Lib.hid FX
  have HX := Lib.hid hX
  have HN := Lib.hid hl
  have HOK := Lib.hid hok
  have HSL := Lib.hid fun j => sums_le hs (fr.take j)
  have HSU := Lib.hid fun j c h => sums_succ hs fr j c h
  rw [hA]
  clear hD B0 B1 B2 FX hX hA hl hok h hZ hZe hml hhs
  go_enter Try.func19, Try.ntmps19
  go_wp2_with fail
  rw [HX.out]
  go_loopw [6, 7] (fun s i wr => ∃ k : Nat, k ≤ 16 ∧ i = .int .i64 k ∧ s = .int .i64 (sums hs (fr.take k) : Nat) ∧ At wr w.heap.size 49 (cat (upto hs fr k)).toArray ∧ At wr (w.heap.size + 1) 27 #[.slice av n cv] ∧ At wr (w.heap.size + 1 + 1) 49 Z ∧ Fr [] w wr) (fun _ i _ => 16 - (intOf i).toNat)
  case atStart => exact ⟨0, by omega, rfl, by simp [sums], HB0.out, HB1.out, HB2.out, HFX.out⟩
  case round =>
    clear HB0 HB1 HB2 HFX HX
    obtain ⟨k, hk, rfl, rfl, h0, h1, h2, hf⟩ := hrel
    have K0 := Lib.hid h0
    have K1 := Lib.hid h1
    have K2 := Lib.hid h2
    have KF := Lib.hid hf
    have hw := hf.size
    have l2 := h2.lt
    obtain ⟨c, hck⟩ : ∃ c, fr[k]? = some c := ⟨_, List.getElem?_eq_getElem (by rw [HN.out]; omega)⟩
    have hcur : c.cur < 4294967296 := HOK.out c (List.mem_of_getElem? hck)
    have hup := upto_get hs fr k c hck
    have HUP := Lib.hid hup
    have CC := Lib.hid fun W hW => C.out W hW c hcur
    have hsl := HSL.out k
    rw [List.length_take, HN.out] at hsl
    have hsu := HSU.out k c hck
    have HCK := Lib.hid hck
    have hcq := h1.cell 0
    simp only [List.getElem?_toArray, List.getElem?_cons_zero] at hcq
    have HLD := Lib.hid fun (W : World) (hW : Fr [] wr W) => (hW.cell (a := ⟨w.heap.size + 1, 0, none⟩) (by show w.heap.size + 1 < _; omega) (by simp)).trans hcq
    obtain ⟨x, hx⟩ : ∃ x, stB hs c = x := ⟨_, rfl⟩
    have HXX := Lib.hid hx
    rw [hx] at CC
    clear h0 h1 h2 hf hck hup hx
    by_cases hk16 : k < 16
    · go_upto_region 5 with (fail)
      refine wp_region_L (fun W => Fr [] wr W) [] (by kernel_rfl) (Fr.refl _ _).drew (fun hHeld => ?_)
      refine wpAnyL_take (i := 0) (v := ?_) rfl (by kernel_rfl) (fun _ _ _ h => h) (Or.inl ⟨by rfl, ?_⟩) (by assumption) ?_; rotate_left; (focus (intro w hSw; skip; go_simp; (try with_reducible rfl))); (try (refine wpAnyL_norm (by simp only [Act.put, List.setIfInBounds_toArray, List.set_cons_zero, List.set_cons_succ]; rfl) ?_))
      refine wpAnyL_take (i := 1) (v := ?_) rfl (by kernel_rfl) (fun _ _ _ h => h) (Or.inl ⟨by rfl, ?_⟩) (by assumption) ?_; rotate_left; (focus (intro w hSw; skip; go_simp; (try with_reducible rfl))); (try (refine wpAnyL_norm (by simp only [Act.put, List.setIfInBounds_toArray, List.set_cons_zero, List.set_cons_succ]; rfl) ?_))
      refine wpAnyL_take (i := 2) (v := ?_) rfl (by kernel_rfl) (fun _ _ _ h => h) (Or.inl ⟨by rfl, ?_⟩) (by assumption) ?_; rotate_left; (focus (intro w hSw; skip; go_simp; (try with_reducible rfl))); (try (refine wpAnyL_norm (by simp only [Act.put, List.setIfInBounds_toArray, List.set_cons_zero, List.set_cons_succ]; rfl) ?_))
      refine wpAnyL_take (i := 3) rfl (by kernel_rfl) (fun _ _ _ h => h) (yields_load_cap (.tmp 14) rfl w.heap.size (k * 8) rfl 49 (upto hs fr k) (fun W h => K0.out.fr h (by simp)) k rfl c HUP.out rfl) (by assumption) ?_; (try (refine wpAnyL_norm (by simp only [Act.put, List.setIfInBounds_toArray, List.set_cons_zero, List.set_cons_succ]; rfl) ?_))
      refine wpAnyL_take (i := 4) (v := ?_) rfl (by kernel_rfl) (fun _ _ _ h => h) (Or.inl ⟨by rfl, ?_⟩) (by assumption) ?_; rotate_left; (focus (intro w hSw; (have hcl := HLD.out _ hSw); go_simp; (try with_reducible rfl))); (try (refine wpAnyL_norm (by simp only [Act.put, List.setIfInBounds_toArray, List.set_cons_zero, List.set_cons_succ]; rfl) ?_))
      refine wpAnyL_ready (rs := [5]) (by kernel_rfl) (by simp) ?_; refine AllReadyL.cons rfl (fun K hK => ?_) AllReadyL.nil
      go_simp
      refine (CC.out _ (KF.out.trans0 hHeld)).mono ?_
      rintro e w5 ⟨rfl, hf5⟩
      refine hK.out _ _ (fun _ => hHeld.trans0 hf5) (fun hHeld' => ?_); have hHeld := hHeld' (by decide); clear hHeld' hK K; (try (refine wpAnyL_norm (by simp only [Act.put, List.setIfInBounds_toArray, List.set_cons_zero, List.set_cons_succ]; rfl) ?_))
      refine wpAnyL_done (by kernel_rfl) ?_ _
      have L0 := Lib.hid (K0.out.fr hHeld (by simp))
      have L1 := Lib.hid (K1.out.fr hHeld (by simp))
      have L2 := Lib.hid (K2.out.fr hHeld (by simp))
      have LF := Lib.hid (KF.out.trans0 hHeld)
      have c7 := (cat_cell L0.out k c HUP.out).2.2.2.2.2.2.2
      have z7 := L0.out.froz (k * 8 + 7)
      clear hHeld hf5 hcq CC
      cases x
      · obtain ⟨e1, e2⟩ := cln_no hs c HXX.out
        rw [e2] at hsu
        have HU := Lib.hid (upto_no hs fr k c HCK.out e1)
        have HS := Lib.hid hsu
        clear e1 e2 hsu c7 z7
        go_wp2_with fail
        go_roundw
        case rel => exact ⟨k + 1, by omega, by go_num, by rw [HS.out]; go_num, by rw [HU.out]; exact L0.out, L1.out, L2.out, LF.out⟩
        case measure => simp [intOf]; omega
      · obtain ⟨e1, e2⟩ := cln_yes hs c HXX.out
        rw [e2] at hsu
        have hu := upto_set hs fr k c HCK.out
        rw [e1] at hu
        have HU := Lib.hid hu
        have HS := Lib.hid hsu
        clear e1 e2 hsu hu
        go_wp2_with fail
        go_roundw
        case rel =>
          refine ⟨k + 1, by omega, by go_num, by rw [HS.out]; go_num, ?_, L1.out.far (by simp) _, L2.out.far (by simp <;> omega) _, LF.out.set (.inr (by simp)) _⟩
          have := L0.out.set (k * 8 + 7) (.bool false)
          rw [List.setIfInBounds_toArray, cat_off _ k c HUP.out, HU.out] at this
          exact this
        case measure => simp [intOf]; omega
    · obtain rfl : k = 16 := by omega
      go_wp2_with (refine wpList_load_cap rfl (.tmp 24) rfl w.heap.size 128 rfl 49 _ K0.out 16 rfl c HUP.out ?_)
      refine (CC.out _ KF.out).mono ?_
      rintro e w5 ⟨rfl, hf5⟩
      have L0 := Lib.hid (K0.out.fr hf5 (by simp))
      have L2 := Lib.hid (K2.out.fr hf5 (by simp))
      have LF := Lib.hid (KF.out.trans0 hf5)
      have c7 := (cat_cell L0.out 16 c HUP.out).2.2.2.2.2.2.2
      have z7 := L0.out.froz (16 * 8 + 7)
      simp only [Nat.reduceMul, Nat.reduceAdd] at c7 z7
      rw [HTA.out] at hsu
      clear hf5 hcq CC
      cases x
      · obtain ⟨e1, e2⟩ := cln_no hs c HXX.out
        rw [e2] at hsu
        have M0 := Lib.hid (show At w5 w.heap.size 49 (cat (fr.map (cln hs))).toArray by rw [← HUA.out, upto_no hs fr 16 c HCK.out e1]; exact L0.out)
        have HS := Lib.hid hsu
        rw [HD.out] at M0
        clear e1 e2 hsu c7 z7 L0 K0
        go_wp2_with (first | (refine wpList_load_all rfl 49 (.tmp 2) rfl w.heap.size rfl 49 D _ M0.out Try.underlying49 rfl HI.out ?_) | (refine wpList_store_all rfl 49 (.tmp 4) (.tmp 32) rfl (w.heap.size + 1 + 1) D rfl rfl 49 Z L2.out HI.out HQ.out HAll.out ?_; intro w6 hA6 hF6))
        exact bodyPost_ret (res_row_tmp rfl _ _ _ 49 _ _ rfl hA6 Try.underlying49 rfl HI.out) rfl ⟨by rw [HS.out]; rfl, LF.out.trans hF6 (by simp <;> omega)⟩
      · obtain ⟨e1, e2⟩ := cln_yes hs c HXX.out
        rw [e2] at hsu
        have hu := upto_set hs fr 16 c HCK.out
        rw [e1, HUA.out] at hu
        have M0 := L0.out.set (16 * 8 + 7) (.bool false)
        rw [List.setIfInBounds_toArray, cat_off _ 16 c HUP.out, hu] at M0
        simp only [Nat.reduceMul, Nat.reduceAdd] at M0
        have M0 := Lib.hid M0
        have M2 := Lib.hid (L2.out.far (a := ⟨w.heap.size, 135, none⟩) (by simp <;> omega) (.bool false))
        have MF := Lib.hid (LF.out.set (a := ⟨w.heap.size, 135, none⟩) (.inr (by simp)) (.bool false))
        have HS := Lib.hid hsu
        rw [HD.out] at M0
        clear e1 e2 hsu hu K0
        go_wp2_with (first | (refine wpList_load_all rfl 49 (.tmp 2) rfl w.heap.size rfl 49 D _ M0.out Try.underlying49 rfl HI.out ?_) | (refine wpList_store_all rfl 49 (.tmp 4) (.tmp 32) rfl (w.heap.size + 1 + 1) D rfl rfl 49 Z M2.out HI.out HQ.out HAll.out ?_; intro w6 hA6 hF6))
        exact bodyPost_ret (res_row_tmp rfl _ _ _ 49 _ _ rfl hA6 Try.underlying49 rfl HI.out) rfl ⟨by rw [HS.out]; rfl, MF.out.trans hF6 (by simp <;> omega)⟩
end Go.Proofs.Ytibjdcllnjfnoaa
