/-
  ScanClean: behind a look at all pages nothing in an arena is stale; what was not is there as it was; whoever looks again finds nothing. No condition.
-/







import Derived.Test.YtilgklpponaoeaaCleanPlain
import Derived.Test.YtilgklpponaoeaaPage
import Derived.Test.YtilgklpponaoeaaPainted
import Derived.Deep.CutBlock
import Derived.Deep.DeepCutAuto
set_option linter.unusedVariables false
namespace Go.Proofs.Ytilgklpponaoeaa
open Go.ChangeShapes Go.WideShapes Go.ChangeAt Go.RowKit
/-- What is laid by a list of stores: a place, a capability. -/
theorem fitsPut {cs : List Value} (h : Fits [.i .u32, .i .u32, .i .u8, .i .u16, .i .u16, .i .u16, .i .u16, .i .u32, .b] cs) : ∃ (a : Nat) (c : Cp), cs = .int .u32 (a : Int) :: c.l ∧ a < 4294967296 ∧ c.Ok := by
  obtain ⟨v0, c1, rfl, ⟨z0, rfl, w0⟩, h1⟩ := h.cons
  obtain ⟨c, rfl, hc⟩ := fitsC h1
  obtain ⟨b0, b1⟩ := bounds_u32 w0
  obtain ⟨a, rfl⟩ := Int.eq_ofNat_of_zero_le b0
  exact ⟨a, c, rfl, by omega, hc⟩
theorem cap_eqq (a b : Cp) (w : World) : (Op.equalIn 10000 38 (.agg a.cells) (.agg b.cells)).run Try.prog w = .ok (eqC a b) w := cap_eq a b w
namespace scanClean
set_option maxHeartbeats 8000000 in
set_option maxRecDepth 100000 in
theorem walk (a0 : Option Addr) (len0 cap0 : Nat) (a1 : Option Addr) (len1 cap1 : Nat) (w : World) (w0 : Elems w a0 len0 [.i .u32, .i .u32]) (w1 : Elems w a1 len1 [.i .u32, .i .u32, .i .u8, .i .u16, .i .u16, .i .u16, .i .u16, .i .u32, .b]) :
    Calls Try.prog 6 #[.slice a0 len0 cap0, .slice a1 len1 cap1] w fun e w' => e = .returned (.bool true) ∧ Fr [] w w' := by
  have CP := Lib.hid (painted_any w a0 len0 cap0 w0)
  obtain ⟨hlen, hrec⟩ := w1
  have Hrec := Lib.hid hrec
  have CN := Lib.hid fun W => anew_any W 16 (by omega) (by omega)
  clear w0 hrec
  go_enter Try.func6, Try.ntmps6
  go_wp2_with fail
  refine (CP.out).mono ?_
  rintro e w1 ⟨F, pp, pp2, pp3, v, rfl, hpt, hbs, hf1⟩
  obtain ⟨av, cv, rfl, -⟩ := own_slice hbs
  have HP1 := Lib.hid (hpt.fr ((Fr.refl [] w1).alloc (.cells #[.slice av 256 cv] 53)) (by simp) (by simp) (by simp))
  have F1 := Lib.hid (hf1.alloc (.cells #[.slice av 256 cv] 53))
  clear hpt hbs hf1 CP
  go_wp2_with fail
  obtain ⟨w2, hw2⟩ : ∃ W, w1.alloc (.cells #[.slice av 256 cv] 53) = W := ⟨_, rfl⟩
  rw [hw2] at HP1 F1 ⊢
  clear hw2
  have hs1 := F1.out.size
  refine (CN.out _).mono ?_
  rintro e w3 ⟨ap, p, g, bg, cap, rfl, ha, h1, h2, h3, h4, hf3⟩
  have HH := Lib.hid ((Hs.of HP1.out).fr hf3 (by simp))
  have HA := Lib.hid ha
  have F3 := Lib.hid (F1.out.trans0 hf3)
  obtain ⟨hs, hhs⟩ : ∃ hs, hasP 256 F = hs := ⟨_, rfl⟩
  rw [hhs] at HH
  obtain ⟨B, hB⟩ : ∃ B, w2.heap.size = B := ⟨_, rfl⟩
  rw [hB] at HH h1 h2 h3 h4 hs1
  have hB3 : B ≤ w3.heap.size := by rw [← hB]; exact hf3.size
  have HL0 := Lib.hid (show (List.replicate (256 * 16) 0).length = 4096 by simp)
  obtain ⟨bs0, hbs0⟩ : ∃ bs, List.replicate (256 * 16) 0 = bs := ⟨_, rfl⟩
  rw [hbs0] at HL0 HA
  have HIC := Lib.hid (fun c : Cp => (show (Try.prog.info? 38).map (·.size) = some c.cells.size from infoCapZ))
  clear hhs hB ha hf3 HP1 F1 hbs0 CN
  go_upto_block 0 with (fail)
  go_cut [9] (fun _ wx => ∃ (bs : List Nat) (f : Nat → Bool), bs.length = 4096 ∧ Ar wx ap p g bg cap bs f ∧ Hs B wx (some ⟨pp, 0, none⟩) hs ∧ Fr [] w wx ∧ B ≤ wx.heap.size)
  case first =>
    go_wp2_with fail
    go_loopw [9] (fun i wr => ∃ (k : Nat) (bs : List Nat) (f : Nat → Bool), k ≤ len1 ∧ i = .int .i64 k ∧ bs.length = 4096 ∧ Ar wr ap p g bg cap bs f ∧ Hs B wr (some ⟨pp, 0, none⟩) hs ∧ Fr [] w wr ∧ B ≤ wr.heap.size) (fun i _ => len1 - (intOf i).toNat)
    case atStart => exact ⟨0, bs0, _, by omega, rfl, HL0.out, HA.out, HH.out, F3.out, hB3⟩
    case round =>
      clear HA HH F3 HL0
      obtain ⟨k, bs, f, hk, rfl, hbl, ha, hh, hf, hBr⟩ := hrel
      have HA := Lib.hid ha
      have HH := Lib.hid hh
      have HF := Lib.hid hf
      have HBL := Lib.hid hbl
      clear ha hh hf hbl
      by_cases h5 : k < len1
      · by_cases h6 : k < 40
        · obtain ⟨b, off, rfl, hb, hcells⟩ := Hrec.out.resolve_left (by omega)
          obtain ⟨cs, hfit, hcs⟩ := hcells k h5
          obtain ⟨a, c, rfl, ha32, hok⟩ := fitsPut hfit
          have hc0 := hcs 0 (by simp)
          simp only [List.length_cons, List.length_nil, List.getElem?_cons_zero, Nat.reduceAdd, Nat.add_zero] at hc0
          have HC := Lib.hid (fun W (hW : Fr [] w W) j v (hv : c.l[j]? = some v) => (hW.cell (a := ⟨b, off + (k * 9 + (j + 1)), none⟩) hb (by simp)).trans ((hcs (j + 1) (by have := (List.getElem?_eq_some_iff.1 hv).1; rw [Cp.l_len] at this; simp; omega)).trans hv))
          have HC0 := Lib.hid (fun W (hW : Fr [] w W) => (hW.cell (a := ⟨b, off + k * 9, none⟩) hb (by simp)).trans hc0)
          have CS := Lib.hid fun W (hW : Fr [] wr W) => astorec_b W ap p g bg cap bs f (HA.out.fr0 hW) a ha32 c hok
          obtain ⟨X, hX⟩ : ∃ X, whB bs.length a = X := ⟨_, rfl⟩
          rw [hX] at CS
          have HSL := Lib.hid (scL_len bs a c)
          clear hcs hcells hfit hc0 hX hok
          go_wp2_with fail
          refine wp_region_L (fun W => Fr [] wr W) [11] (by kernel_rfl) ((Fr.refl _ _).drew) (fun hHeld => ?_)
          refine wpAnyL_take (i := 0) (v := ?_) rfl (by kernel_rfl) (fun _ _ _ h => h) (Or.inl ⟨by rfl, ?_⟩) (by assumption) ?_; rotate_left; (focus (intro w hSw; skip; go_simp; (try with_reducible rfl))); (try (refine wpAnyL_norm (by simp only [Act.put, List.setIfInBounds_toArray, List.set_cons_zero, List.set_cons_succ]; rfl) ?_))
          refine wpAnyL_take (i := 1) (v := ?_) rfl (by kernel_rfl) (fun _ _ _ h => h) (Or.inl ⟨by rfl, ?_⟩) (by assumption) ?_; rotate_left; (focus (intro w hSw; skip; go_simp; (try with_reducible rfl))); (try (refine wpAnyL_norm (by simp only [Act.put, List.setIfInBounds_toArray, List.set_cons_zero, List.set_cons_succ]; rfl) ?_))
          refine wpAnyL_take (i := 2) (v := ?_) rfl (by kernel_rfl) (fun _ _ _ h => h) (Or.inl ⟨by rfl, ?_⟩) (by assumption) ?_; rotate_left; (focus (intro w hSw; skip; go_simp; (try with_reducible rfl))); (try (refine wpAnyL_norm (by simp only [Act.put, List.setIfInBounds_toArray, List.set_cons_zero, List.set_cons_succ]; rfl) ?_))
          refine wpAnyL_take (i := 3) (v := ?_) rfl (by kernel_rfl) (fun _ _ _ h => h) (Or.inl ⟨by rfl, ?_⟩) (by assumption) ?_; rotate_left; (focus (intro w hSw; skip; go_simp; (try with_reducible rfl))); (try (refine wpAnyL_norm (by simp only [Act.put, List.setIfInBounds_toArray, List.set_cons_zero, List.set_cons_succ]; rfl) ?_))
          refine wpAnyL_take (i := 4) (v := ?_) rfl (by kernel_rfl) (fun _ _ _ h => h) (Or.inl ⟨by rfl, ?_⟩) (by assumption) ?_; rotate_left; (focus (intro w hSw; skip; go_simp; (try with_reducible rfl))); (try (refine wpAnyL_norm (by simp only [Act.put, List.setIfInBounds_toArray, List.set_cons_zero, List.set_cons_succ]; rfl) ?_))
          refine wpAnyL_take (i := 5) (v := ?_) rfl (by kernel_rfl) (fun _ _ _ h => h) (Or.inl ⟨by rfl, ?_⟩) (by assumption) ?_; rotate_left; (focus (intro w hSw; (have cc := HC0.out _ (HF.out.trans0 hSw)); go_simp; (try with_reducible rfl))); (try (refine wpAnyL_norm (by simp only [Act.put, List.setIfInBounds_toArray, List.set_cons_zero, List.set_cons_succ]; rfl) ?_))
          refine wpAnyL_take (i := 6) (v := ?_) rfl (by kernel_rfl) (fun _ _ _ h => h) (Or.inl ⟨by rfl, ?_⟩) (by assumption) ?_; rotate_left; (focus (intro w hSw; skip; go_simp; (try with_reducible rfl))); (try (refine wpAnyL_norm (by simp only [Act.put, List.setIfInBounds_toArray, List.set_cons_zero, List.set_cons_succ]; rfl) ?_))
          refine wpAnyL_take (i := 7) (v := ?_) rfl (by kernel_rfl) (fun _ _ _ h => h) (Or.inl ⟨by rfl, ?_⟩) (by assumption) ?_; rotate_left; (focus (intro w hSw; skip; go_simp; (try with_reducible rfl))); (try (refine wpAnyL_norm (by simp only [Act.put, List.setIfInBounds_toArray, List.set_cons_zero, List.set_cons_succ]; rfl) ?_))
          refine wpAnyL_take (i := 8) (v := ?_) rfl (by kernel_rfl) (fun _ _ _ h => h) (Or.inl ⟨by rfl, ?_⟩) (by assumption) ?_; rotate_left; (focus (intro w hSw; skip; go_simp; (try with_reducible rfl))); (try (refine wpAnyL_norm (by simp only [Act.put, List.setIfInBounds_toArray, List.set_cons_zero, List.set_cons_succ]; rfl) ?_))
          refine wpAnyL_take (i := 9) (v := ?_) rfl (by kernel_rfl) (fun _ _ _ h => h) (Or.inl ⟨by rfl, ?_⟩) (by assumption) ?_; rotate_left; (focus (intro w hSw; skip; go_simp; (try with_reducible rfl))); (try (refine wpAnyL_norm (by simp only [Act.put, List.setIfInBounds_toArray, List.set_cons_zero, List.set_cons_succ]; rfl) ?_))
          refine wpAnyL_take (i := 10) rfl (by kernel_rfl) (fun _ _ _ h => h) (yields_load_at 38 (.tmp 53) rfl ⟨b, off + k * 9 + 1, none⟩ rfl c.l _ (fun W h j v hv => by
            rw [Go.WideShapes.add_plain, show off + k * 9 + 1 + j = off + (k * 9 + (j + 1)) by omega]
            exact HC.out W (HF.out.trans0 h) j v hv) Try.underlying38 rfl infoCapS rfl) (by assumption) ?_; (try (refine wpAnyL_norm (by simp only [Act.put, List.setIfInBounds_toArray, List.set_cons_zero, List.set_cons_succ]; rfl) ?_))
          refine wpAnyL_ready (rs := [11]) (by kernel_rfl) (by simp) ?_; refine AllReadyL.cons rfl (fun K hK => ?_) AllReadyL.nil
          go_simp
          refine (CS.out _ hHeld).mono ?_
          rintro e w5 ⟨rfl, h5a, hf5⟩
          have HA5 := Lib.hid h5a
          have HH5 := Lib.hid ((HH.out.fr hHeld (by simp)).fr hf5 (by simp; omega))
          have HF5 := Lib.hid ((HF.out.trans0 hHeld).trans hf5 (by simp; omega))
          have hB5 : B ≤ w5.heap.size := by have := hHeld.size; have := hf5.size; omega
          clear h5a hf5
          refine hK.out _ _ (fun h => (h (by decide)).elim) (fun _ => ?_); clear hK K; (try (refine wpAnyL_norm (by simp only [Act.put, List.setIfInBounds_toArray, List.set_cons_zero, List.set_cons_succ]; rfl) ?_))
          refine wpAnyL_done (by kernel_rfl) ?_ _
          clear CS hHeld
          go_wp2_with fail
          go_roundw
          case rel => exact ⟨k + 1, scL bs a c, scF bs f a c, by omega, by go_num, by rw [HSL.out, HBL.out], HA5.out, HH5.out, HF5.out, hB5⟩
          case measure => simp [intOf]; omega
        · have hd : decide ((k : Int) < (len1 : Int)) = true := by simpa using h5
          go_wp2_with fail
          go_meet
          exact ⟨bs, f, HBL.out, HA.out, HH.out, HF.out, hBr⟩
      · go_wp2_with fail
        go_meet
        exact ⟨bs, f, HBL.out, HA.out, HH.out, HF.out, hBr⟩
  case rest =>
    clear HA HH F3 HL0
    obtain ⟨bs, f, hbl, ha, hh, hf, hBx⟩ := hcut
    rename World => wx
    have CC := Lib.hid (acopy_any wx ap p g bg cap bs f ha)
    have HA := Lib.hid ha
    have HH := Lib.hid hh
    have HF := Lib.hid hf
    have HBL := Lib.hid hbl
    have HLT := Lib.hid ha.lt
    clear ha hh hf hbl
    go_wp2_with fail
    refine (CC.out).mono ?_
    rintro e w4 ⟨ap', p', g', bg', cap', rfl, hb4, n1, n2, n3, n4, hf4⟩
    have HBC := Lib.hid hb4
    have HA4 := Lib.hid (HA.out.fr0 hf4)
    have HH4 := Lib.hid (HH.out.fr hf4 (by simp))
    have HF4 := Lib.hid (HF.out.trans0 hf4)
    have hB4 : B ≤ w4.heap.size := Nat.le_trans hBx hf4.size
    have hgl := HLT.out.2.2.1
    clear hb4 hf4 CC HA HH HF
    go_upto_block 2 with (fail)
    go_cut [11, 12] (fun gn _ wy => gn = .int .i64 (clN bs hs f 256 : Nat) ∧ Ar wy ap p g bg cap bs (clT bs hs f 16) ∧ Ar wy ap' p' g' bg' cap' bs f ∧ Hs B wy (some ⟨pp, 0, none⟩) hs ∧ Fr [] w wy ∧ B ≤ wy.heap.size)
    case first =>
      go_wp2_with fail
      go_loopw [11, 12] (fun gn i wr => ∃ k : Nat, k ≤ 16 ∧ i = .int .i64 k ∧ gn = .int .i64 (clN bs hs f (16 * k) : Nat) ∧ Ar wr ap p g bg cap bs (clT bs hs f k) ∧ Ar wr ap' p' g' bg' cap' bs f ∧ Hs B wr (some ⟨pp, 0, none⟩) hs ∧ Fr [] w wr ∧ B ≤ wr.heap.size) (fun _ i _ => 16 - (intOf i).toNat)
      case atStart => exact ⟨0, by omega, rfl, rfl, by rw [clT_zero]; exact HA4.out, HBC.out, HH4.out, HF4.out, hB4⟩
      case round =>
        clear HA4 HBC HH4 HF4
        obtain ⟨k, hk, rfl, rfl, ha, hb, hh, hf, hBr⟩ := hrel
        have HA := Lib.hid ha
        have HBC := Lib.hid hb
        have HH := Lib.hid hh
        have HF := Lib.hid hf
        clear ha hb hh hf
        by_cases h7 : k < 16
        · have CG := Lib.hid (spage_any ap p g bg cap bs _ HA.out HH.out hBr h3 (k : Int))
          have HN1 := Lib.hid (clN_page 4096 bs hs f k (by omega))
          rw [HBL.out, clT_page 4096 bs hs f k (by omega)] at CG
          have hle := clN_le bs hs f (16 * k)
          have hle2 := clN_le bs hs f (16 * (k + 1))
          rw [HN1.out] at hle2
          obtain ⟨X, hX⟩ : ∃ X, clN bs hs f (16 * k) = X := ⟨_, rfl⟩
          obtain ⟨Y, hY⟩ : ∃ Y, pgN bs hs (tgP 4096 (clT bs hs f k) k) = Y := ⟨_, rfl⟩
          rw [hX] at HN1 hle hle2 ⊢
          rw [hY] at HN1 CG hle2
          clear hX hY
          go_wp2_with fail
          refine (CG.out).mono ?_
          rintro e w5 ⟨rfl, h5a, hf5⟩
          have HA5 := Lib.hid h5a
          have HBC5 := Lib.hid (HBC.out.fr hf5 (by simp; omega) (by simp; omega) (by simp; omega) (by simp; omega))
          have HH5 := Lib.hid (HH.out.fr hf5 (by simp; omega))
          have HF5 := Lib.hid (HF.out.trans hf5 (by simp; omega))
          have hB5 : B ≤ w5.heap.size := Nat.le_trans hBr hf5.size
          clear h5a hf5 CG HA HBC HH HF
          go_wp2_with fail
          go_roundw
          case rel => exact ⟨k + 1, by omega, by go_num, by rw [HN1.out]; go_num, HA5.out, HBC5.out, HH5.out, HF5.out, hB5⟩
          case measure => simp [intOf]; omega
        · obtain rfl : k = 16 := by omega
          go_wp2_with fail
          go_meet
          exact ⟨rfl, HA.out, HBC.out, HH.out, HF.out, hBr⟩
    case rest =>
      clear HA4 HBC HH4 HF4 hB4
      obtain ⟨rfl, ha, hb, hh, hf, hBy⟩ := hcut
      rename World => wy
      have HA := Lib.hid ha
      have HBC := Lib.hid hb
      have HH := Lib.hid hh
      have HF := Lib.hid hf
      clear ha hb hh hf
      go_upto_block 4 with (fail)
      go_cut [11, 13] (fun gn _ wz => gn = .int .i64 0 ∧ Ar wz ap p g bg cap bs (clT bs hs f 16) ∧ Hs B wz (some ⟨pp, 0, none⟩) hs ∧ Fr [] w wz ∧ B ≤ wz.heap.size)
      case first =>
        have hNt := clN_le bs hs f 256
        obtain ⟨NT, hNT⟩ : ∃ NT, clN bs hs f 256 = NT := ⟨_, rfl⟩
        rw [hNT] at hNt ⊢
        have HNT := Lib.hid hNT
        clear hNT
        go_wp2_with fail
        go_loopw [11, 13] (fun gn i wr => ∃ k : Nat, k ≤ 256 ∧ i = .int .u32 (16 * k : Nat) ∧ (∃ G : Nat, gn = .int .i64 G ∧ G + clN bs hs f k = NT) ∧ Ar wr ap p g bg cap bs (clT bs hs f 16) ∧ Ar wr ap' p' g' bg' cap' bs f ∧ Hs B wr (some ⟨pp, 0, none⟩) hs ∧ Fr [] w wr ∧ B ≤ wr.heap.size) (fun _ i _ => 4096 - (intOf i).toNat)
        case atStart => exact ⟨0, by omega, rfl, ⟨NT, rfl, by simp [clN]⟩, HA.out, HBC.out, HH.out, HF.out, hBy⟩
        case round =>
          clear HA HBC HH HF
          obtain ⟨k, hk, rfl, ⟨G, rfl, hG⟩, ha, hb, hh, hf, hBr⟩ := hrel
          have HA := Lib.hid ha
          have HBC := Lib.hid hb
          have HH := Lib.hid hh
          have HF := Lib.hid hf
          have HG := Lib.hid hG
          clear ha hb hh hf hG
          by_cases h8 : k < 256
          · obtain ⟨l1, l2, l3, l4⟩ := loaded bs hs f k (by omega)
            have hsn := clN_succ bs hs f k
            have hmo := clN_mono bs hs f (k + 1) 256 (by omega)
            rw [HNT.out] at hmo
            have hby : Byt (sub bs (16 * k) 16) := fun x hx => HA.out.2.2.2.2.1 x (List.mem_of_mem_drop (List.mem_of_mem_take hx))
            have hsl : (sub bs (16 * k) 16).length = 16 := by unfold sub; rw [List.length_take, List.length_drop, HBL.out]; omega
            have hu1 := ofB_ok (sub bs (16 * k) 16) (clT bs hs f 16 k) hby hsl
            have hu2 := ofB_ok (sub bs (16 * k) 16) (f k) hby hsl
            have hwh : whB bs.length (16 * k) = true := by unfold whB; rw [HBL.out]; simp; omega
            have CLA := Lib.hid fun W (hW : Fr [] wr W) => (show Calls Try.prog 30 #[.pointer (some ⟨ap, 0, none⟩), .int .u32 (16 * k : Nat)] W fun r w' => r = .returned (.tuple #[.agg (ofB (sub bs (16 * k) 16) (clT bs hs f 16 k)).cells, .bool true]) ∧ Fr [] W w' from by
              have := aloadc_b W ap p g bg cap bs _ (HA.out.fr0 hW) (16 * k) (by omega)
              unfold ldC at this
              rw [hwh, if_pos rfl, show 16 * k / 16 = k by omega] at this
              exact this)
            have CLB := Lib.hid fun W (hW : Fr [] wr W) => (show Calls Try.prog 30 #[.pointer (some ⟨ap', 0, none⟩), .int .u32 (16 * k : Nat)] W fun r w' => r = .returned (.tuple #[.agg (ofB (sub bs (16 * k) 16) (f k)).cells, .bool true]) ∧ Fr [] W w' from by
              have := aloadc_b W ap' p' g' bg' cap' bs _ (HBC.out.fr0 hW) (16 * k) (by omega)
              unfold ldC at this
              rw [hwh, if_pos rfl, show 16 * k / 16 = k by omega] at this
              exact this)
            have CS1 := Lib.hid fun W (hW : Fr [] wr W) => sstale_any (HH.out.fr hW (by simp)) (Nat.le_trans hBr hW.size) _ hu1
            have CS2 := Lib.hid fun W (hW : Fr [] wr W) => sstale_any (HH.out.fr hW (by simp)) (Nat.le_trans hBr hW.size) _ hu2
            rw [l1] at CS1
            rw [l2] at CS2
            obtain ⟨a, haa⟩ : ∃ a, 16 * k = a := ⟨_, rfl⟩
            rw [haa] at CLA CLB CS1 CS2 l3 l4 ⊢
            have HAA := Lib.hid haa
            obtain ⟨C, hC⟩ : ∃ C, ofB (sub bs a 16) (clT bs hs f 16 k) = C := ⟨_, rfl⟩
            obtain ⟨D, hD⟩ : ∃ D, ofB (sub bs a 16) (f k) = D := ⟨_, rfl⟩
            obtain ⟨T, hT⟩ : ∃ T, clB bs hs f k = T := ⟨_, rfl⟩
            rw [hC] at CLA CS1 l3 l4
            rw [hD] at CLB CS2 l3 l4
            rw [hT] at CS2 l3 l4 hsn
            have CAP : ∀ w : World, (Op.equalIn 10000 38 (.agg C.cells) (.agg C.cells)).run Try.prog w = .ok true w := fun w => by rw [cap_eqq, eqC_self]
            have hai : (a : Int) < 4096 := by omega
            have hai0 : (a : Int) + 16 = ((16 * (k + 1) : Nat) : Int) := by omega
            have HAI := Lib.hid hai0
            have HG1 := Lib.hid (show T = true → 1 ≤ G from fun h => by subst h; have := HG.out; simp at hsn; omega)
            have HSN := Lib.hid hsn
            have L3 := Lib.hid l3
            have L4 := Lib.hid l4
            clear hby hsl hu1 hu2 hwh haa hC hD hT l1 l2 l3 l4 hsn hmo hai0
            go_wp2_with fail
            refine (CLA.out _ (Fr.refl _ _)).mono ?_
            rintro e w4 ⟨rfl, hf4⟩
            have F4 := Lib.hid (hf4.alloc (.cells noC.cells 38))
            have hs4 := hf4.size
            clear hf4
            go_upto_region 21 with (refine wpList_store_all rfl 38 (.tmp 14) (.tmp 78) rfl _ C.cells rfl rfl 38 noC.cells (At.nw rfl) (HIC.out C) rfl (cellz_all C) ?_; intro w5 hA5 hF5)
            have A5 := Lib.hid hA5
            have F5 := Lib.hid (F4.out.trans hF5 (by simp <;> omega))
            clear hA5 hF5 F4
            go_wp2_with fail
            refine (CLB.out _ F5.out).mono ?_
            rintro e w6 ⟨rfl, hf6⟩
            have A6 := Lib.hid ((A5.out.fr hf6 (by simp)).old (.cells noC.cells 38))
            have F6 := Lib.hid ((F5.out.trans0 hf6).alloc (.cells noC.cells 38))
            have hs6 := (F5.out.trans0 hf6).size
            have hl5 := A5.out.lt' hf6
            clear hf6 A5 F5
            go_upto_region 22 with (refine wpList_store_all rfl 38 (.tmp 16) (.tmp 84) rfl _ D.cells rfl rfl 38 noC.cells (At.nw rfl) (HIC.out D) rfl (cellz_all D) ?_; intro w7 hA7 hF7)
            have A7 := Lib.hid (A6.out.fr hF7 (by simp; omega))
            have B7 := Lib.hid hA7
            have F7 := Lib.hid (F6.out.trans hF7 (by simp <;> omega))
            have hne7 : w6.heap.size ≠ w4.heap.size := by omega
            clear hA7 hF7 F6 A6
            obtain ⟨q1, hq1⟩ : ∃ q, w4.heap.size = q := ⟨_, rfl⟩
            obtain ⟨q2, hq2⟩ : ∃ q, w6.heap.size = q := ⟨_, rfl⟩
            rw [hq1] at A7 hne7 hs4
            rw [hq2] at B7 hne7 hs6
            have HQ1 := Lib.hid hq1
            have HQ2 := Lib.hid hq2
            rw [HQ1.out, HQ2.out]
            clear hq1 hq2 hl5
            go_wp2_with (refine wpList_load_all rfl 38 (.tmp 14) rfl q1 rfl 38 C.cells _ A7.out Try.underlying38 rfl (HIC.out C) ?_)
            refine (CS1.out _ F7.out).mono ?_
            rintro e w8 ⟨rfl, hf8⟩
            have A8 := Lib.hid (A7.out.fr hf8 (by simp))
            have B8 := Lib.hid (B7.out.fr hf8 (by simp))
            have F8 := Lib.hid (F7.out.trans0 hf8)
            clear hf8 A7 B7 F7
            go_wp2_with (refine wpList_load_all rfl 38 (.tmp 16) rfl q2 rfl 38 D.cells _ B8.out Try.underlying38 rfl (HIC.out D) ?_)
            refine (CS2.out _ F8.out).mono ?_
            rintro e w9 ⟨rfl, hf9⟩
            have A9 := Lib.hid (A8.out.fr hf9 (by simp))
            have B9 := Lib.hid (B8.out.fr hf9 (by simp))
            have F9 := Lib.hid (F8.out.trans0 hf9)
            clear hf9 A8 B8 F8
            cases T with
            | true =>
              have hG1 := HG1.out rfl
              have hG2 : G ≤ 256 := by have := HG.out; omega
              have hG3 : (1 : Int) ≤ (G : Int) := by omega
              have c7 := B9.out.cell 7
              have z7 := B9.out.froz 7
              unfold Cp.cells at c7
              simp only [List.getElem?_toArray, List.getElem?_cons_zero, List.getElem?_cons_succ] at c7
              have B10 : At (w9.setCell ⟨q2, 7, none⟩ (.bool false)) q2 38 C.cells := by rw [← L3.out rfl]; exact B9.out.set 7 (.bool false)
              have A10 := A9.out.far (a := ⟨q2, 7, none⟩) (by simp; omega) (.bool false)
              have F10 := F9.out.set (a := ⟨q2, 7, none⟩) (.inr (by simp; omega)) (.bool false)
              obtain ⟨w10, hw10⟩ : ∃ W, w9.setCell ⟨q2, 7, none⟩ (.bool false) = W := ⟨_, rfl⟩
              rw [hw10] at B10 A10 F10
              have HA10 := Lib.hid A10
              have HB10 := Lib.hid B10
              have HF10 := Lib.hid F10
              clear A10 B10 F10 A9 B9 F9
              go_upto_region 27 with (fail)
              go_wp2_with (first | (refine wpList_load_all rfl 38 (.tmp 14) rfl q1 rfl 38 C.cells _ HA10.out Try.underlying38 rfl (HIC.out C) ?_) | (refine wpList_load_all rfl 38 (.tmp 16) rfl q2 rfl 38 C.cells _ HB10.out Try.underlying38 rfl (HIC.out C) ?_))
              go_roundw
              case rel => exact ⟨k + 1, by omega, by rw [HAI.out], ⟨G - 1, by congr 1; omega, by have := HG.out; have := HSN.out; simp at this; omega⟩, HA.out.fr0 HF10.out, HBC.out.fr0 HF10.out, HH.out.fr HF10.out (by simp), HF.out.trans0 HF10.out, Nat.le_trans hBr HF10.out.size⟩
              case measure => simp [intOf]; omega
            | false =>
              obtain rfl := L4.out rfl
              go_wp2_with (first | (refine wpList_load_all rfl 38 (.tmp 14) rfl q1 rfl 38 D.cells _ A9.out Try.underlying38 rfl (HIC.out D) ?_) | (refine wpList_load_all rfl 38 (.tmp 16) rfl q2 rfl 38 D.cells _ B9.out Try.underlying38 rfl (HIC.out D) ?_))
              go_roundw
              case rel => exact ⟨k + 1, by omega, by rw [HAI.out], ⟨G, rfl, by have := HG.out; have := HSN.out; simp at this; omega⟩, HA.out.fr0 F9.out, HBC.out.fr0 F9.out, HH.out.fr F9.out (by simp), HF.out.trans0 F9.out, Nat.le_trans hBr F9.out.size⟩
              case measure => simp [intOf]; omega
          · obtain rfl : k = 256 := by omega
            have hG0 : G = 0 := by have := HG.out; have := HNT.out; omega
            have HG0 := Lib.hid hG0
            clear hG0
            go_wp2_with fail
            go_meet
            exact ⟨by rw [HG0.out]; rfl, HA.out, HH.out, HF.out, hBr⟩
      case rest =>
        obtain ⟨rfl, ha, hh, hf, hBz⟩ := hcut
        rename World => wz
        clear HA HBC HH HF hBy
        have HA := Lib.hid ha
        have HH := Lib.hid hh
        have HF := Lib.hid hf
        clear ha hh hf
        go_upto_block 6 with (fail)
        go_cut [18] (fun _ wv => Fr [] w wv)
        case first =>
          go_wp2_with fail
          go_loopw [18] (fun i wr => ∃ k : Nat, k ≤ 16 ∧ i = .int .i64 k ∧ Ar wr ap p g bg cap bs (clT bs hs f 16) ∧ Hs B wr (some ⟨pp, 0, none⟩) hs ∧ Fr [] w wr ∧ B ≤ wr.heap.size) (fun i _ => 16 - (intOf i).toNat)
          case atStart => exact ⟨0, by omega, rfl, HA.out, HH.out, HF.out, hBz⟩
          case round =>
            clear HA HH HF
            obtain ⟨k, hk, rfl, ha, hh, hf, hBr⟩ := hrel
            have HA := Lib.hid ha
            have HH := Lib.hid hh
            have HF := Lib.hid hf
            clear ha hh hf
            by_cases h7 : k < 16
            · have CG := Lib.hid (spage_any ap p g bg cap bs _ HA.out HH.out hBr h3 (k : Int))
              obtain ⟨r1, r2⟩ := again 4096 bs hs f (by omega) k h7
              rw [HBL.out, r1, r2] at CG
              clear r1 r2
              go_wp2_with fail
              refine (CG.out).mono ?_
              rintro e w5 ⟨rfl, h5a, hf5⟩
              have HA5 := Lib.hid h5a
              have HH5 := Lib.hid (HH.out.fr hf5 (by simp; omega))
              have HF5 := Lib.hid (HF.out.trans hf5 (by simp; omega))
              have hB5 : B ≤ w5.heap.size := Nat.le_trans hBr hf5.size
              clear h5a hf5 CG HA HH HF
              go_wp2_with fail
              go_roundw
              case rel => exact ⟨k + 1, by omega, by go_num, HA5.out, HH5.out, HF5.out, hB5⟩
              case measure => simp [intOf]; omega
            · go_wp2_with fail
              go_meet
              exact HF.out
        case rest =>
          have HV := Lib.hid hcut
          clear hcut
          go_wp2_with fail
          refine (works_any _).mono ?_
          rintro e w9 ⟨rfl, hf9⟩
          go_wp2_with fail
          go_ret
          exact ⟨rfl, HV.out.trans0 hf9⟩
theorem laidOut : laidOutB Try.prog = true := by kernel_rfl
set_option maxRecDepth 100000 in
theorem lifted (os : Os) (started : os.Started) (H : Type) (enc : TypeId × Value → H) :
    ReturnsInHanded {} Try.checked os 6 .any (Rows.scanCleanSpec.pre6 enc Try.prog Try.f6 Rows.scanCleanRow.domain false) (Rows.scanCleanSpec.post enc Try.prog Try.f6 false true false false) := by
  refine returnsInHanded_of_change (C := Try.checked) own started (by kernel_rfl) Try.func6
    (ChangeSpec.witness6 (enc := enc) (C := Try.checked) false ⟨#[], #[.slice none 0 0, .slice none 0 0], []⟩ 8 (by kernel_rfl) (by kernel_rfl) (by kernel_rfl) (by kernel_rfl)) ?_
  intro W base args ds gs before hval0 hW hcnd _
  have hval : ∀ (j : Nat) t v, Try.f6.params[j]? = some t → args[j]? = some v → Value.okWide Try.prog W .any base t v := hval0
  have hW' := hW
  obtain ⟨p, q, hA0, hV, rfl, hfz, hnd⟩ := hW
  have hA : DataW.TrodAll enc Try.prog W 0 (fun _ => true) true Try.f6.params.toList args.toList ds p := hA0
  rw [Try.params6] at hA hval
  obtain ⟨v0, vs0, d0, ds0, p0, q0, hargs, rfl, rfl, h0, r0⟩ := trodAll_cons hA
  obtain ⟨v1, vs1, d1, ds1, p1, q1, rfl, rfl, rfl, h1, r1⟩ := trodAll_cons r0
  obtain ⟨rfl, rfl, rfl⟩ := trodAll_nil r1
  obtain rfl : args = #[v0, v1] := by cases args; simp_all
  obtain ⟨rfl, rfl⟩ := trodVars_none hV
  obtain ⟨a0, len0, cap0, rfl⟩ := okWide_slice Try.underlying48 (hval 0 48 v0 rfl rfl)
  have k0 := h0
  have lt0 : ∀ x ∈ p0, x.block < W.heap.size := by obtain ⟨m, hm⟩ := k0; exact DataW.trod_lt m _ _ _ hm
  have w0 : Elems W a0 len0 [.i .u32, .i .u32] := by
    obtain ⟨fuel, hf⟩ := h0
    exact open_elems (n := 20) Try.underlying48 (by kernel_rfl : flat Try.prog 20 70 = some [.i .u32, .i .u32]) (by kernel_rfl) (by decide) hf
  obtain ⟨a1, len1, cap1, rfl⟩ := okWide_slice Try.underlying49 (hval 1 49 v1 rfl rfl)
  have k1 := h1
  have lt1 : ∀ x ∈ p1, x.block < W.heap.size := by obtain ⟨m, hm⟩ := k1; exact DataW.trod_lt m _ _ _ hm
  have w1 : Elems W a1 len1 [.i .u32, .i .u32, .i .u8, .i .u16, .i .u16, .i .u16, .i .u16, .i .u32, .b] := by
    obtain ⟨fuel, hf⟩ := h1
    exact open_elems (n := 20) Try.underlying49 (by kernel_rfl : flat Try.prog 20 57 = some [.i .u32, .i .u32, .i .u8, .i .u16, .i .u16, .i .u16, .i .u16, .i .u32, .b]) (by kernel_rfl) (by decide) hf
  clear hA0 hval0
  refine (walk a0 len0 cap0 a1 len1 cap1 W w0 w1).mono fun e W' ⟨he, hg⟩ => ?_
  subst he
  have bel := hg.below
  exact ⟨_, rfl, _, _, _, [], _, [], hW', trodAll_mk1 (shut_bool Try.underlying4 _), (trodAll_cons_mk (Below.trod laidOut (by kernel_rfl) (of_decide_eq_true (by kernel_rfl)) k0 bel lt0) (trodAll_cons_mk (Below.trod laidOut (by kernel_rfl) (of_decide_eq_true (by kernel_rfl)) k1 bel lt1) trodAll_mk0)), rfl, bel.frame _, fun h => by cases h⟩
theorem over : Rows.scanCleanRow.holds Try.pinned (OpenSpec.ofChange Rows.scanCleanSpec) :=
  OpenClaim.holds_of_wide 6 Try.f6 rfl rfl rfl rfl rfl rfl rfl ⟨rfl, rfl, rfl, rfl, rfl⟩ rfl rfl rfl rfl rfl (by kernel_rfl) Try.func6 (by kernel_rfl)
    (of_decide_eq_true (by kernel_rfl)) (by unfold Func.isWrapper; first | (rw [if_pos (by decide +kernel)]; kernel_rfl) | (rw [if_neg (by decide +kernel)]; exact ⟨rfl, rfl⟩))
    (fun os started H enc _ => lifted os started H enc)
/-- The statement, proved. -/
theorem proved : Rows.ScanCleanSaid :=
  over
end scanClean
end Go.Proofs.Ytilgklpponaoeaa
