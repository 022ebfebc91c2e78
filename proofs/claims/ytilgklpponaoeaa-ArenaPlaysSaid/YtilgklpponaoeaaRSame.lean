/-
  Both arenas tell the same. Condition: numbers in their types' ranges.
-/





import Derived.Test.YtilgklpponaoeaaRStepL
import Derived.Test.YtilgklpponaoeaaRTagged
set_option linter.unusedVariables false
namespace Go.Proofs.Ytilgklpponaoeaa
open Go.ChangeShapes Go.WideShapes Go.ChangeAt Go.RowKit
theorem u32s_get' (l : List Nat) (j a : Nat) (h : l[j]? = some a) : (u32s l)[j]? = some (.int .u32 (a : Int)) := by
  unfold u32s
  rw [List.getElem?_map, h]; rfl
theorem sub_all (bs : List Nat) : sub bs 0 bs.length = bs := by unfold sub; simp
set_option maxHeartbeats 4000000 in
set_option maxRecDepth 100000 in
theorem same_any (w : World) (ap p g bg cap r bb tb cb ct : Nat) (bs : List Nat) (f : Nat → Bool) (h : Pr w ap p g bg cap r bb tb cb ct bs f) (h256 : bs.length % 256 = 0) :
    Calls Try.prog 14 #[.pointer (some ⟨ap, 0, none⟩), .pointer (some ⟨r, 0, none⟩)] w fun e w' => e = .returned (.bool true) ∧ Fr [] w w' := by
  have P0 := Lib.hid h
  have CS := Lib.hid (asize_any _ _ _ _ _ _ _ _ h.aa)
  have hle := h.rr.le
  have CR := Lib.hid (aread_b _ _ _ _ _ _ _ _ h.aa 0 (by omega) (bs.length : Nat) (by omega) (by omega))
  rw [thB_nat, decide_eq_true (by omega), if_pos rfl, Int.toNat_natCast, sub_all] at CR
  have HIN := Lib.hid (show BIn w (some ⟨bb, 0, none⟩) bs from .inr ⟨bb, 0, rfl, h.rr.lt.2.1, fun j v hv => by
    have hj : j < bs.length := by have := (List.getElem?_eq_some_iff.1 hv).1; rwa [bys_len] at this
    obtain ⟨b, hb⟩ : ∃ b, bs[j]? = some b := ⟨_, List.getElem?_eq_getElem hj⟩
    rw [bys_get _ _ _ hb] at hv
    injection hv with hv
    rw [← hv, Nat.zero_add]
    exact h.rr.byte j b hb⟩)
  have HBY := Lib.hid h.rr.byt
  have c0 := h.rr.c0
  have hb := h.rr.cb1
  have hb2 := h.rr.cb2
  have H256 := Lib.hid h256
  obtain ⟨N, hN⟩ : ∃ N, bs.length = N := ⟨_, rfl⟩
  rw [hN] at CS CR hle c0 hb
  have HN := Lib.hid hN
  unfold strV at CR
  obtain ⟨S, hS⟩ : ∃ S, BS bs = S := ⟨_, rfl⟩
  rw [hS] at CR
  have HS := Lib.hid hS
  obtain ⟨M, hM⟩ : ∃ M, N / 256 = M := ⟨_, rfl⟩
  have hMb : M ≤ 1024 := by omega
  have e1 : (N : Int).tdiv 256 = (M : Int) := by rw [Int.tdiv_eq_ediv_of_nonneg (by omega)]; omega
  have e2 : (N : Int) / 256 = (M : Int) := by omega
  have e3 : IntKind.i64.wrap (M : Int) = M := i64w M (by omega)
  have e4 : IntKind.i64.wrap (N : Int) = N := i64w N (by omega)
  clear h h256 hS hN hM
  go_enter Try.func14, Try.ntmps14
  go_wp2_with fail
  refine CS.out.mono ?_
  rintro e w' ⟨rfl, rfl⟩
  go_wp2_with fail
  refine CR.out.mono ?_
  rintro e w' ⟨rfl, rfl⟩
  clear CS CR
  go_wp2_with (refine wpList_str (by rfl) ⟨5, Try.underlying31, Try.underlying5⟩ Try.underlying9 (.tmp 25) rfl _ _ _ rfl bs HN.out HBY.out HIN.out (fun h => by cases h) ?_; unfold strV; rw [HS.out])
  clear HIN HBY HS
  go_loopw [7] (fun i wr => ∃ z : Int, -1 ≤ z ∧ z ≤ M + 1 ∧ i = .int .i64 z ∧ Fr [] w wr) (fun i _ => ((M : Int) + 1 - intOf i).toNat)
  case atStart => exact ⟨-1, by omega, by omega, rfl, Fr.refl _ _⟩
  case round =>
    obtain ⟨z, z1, z2, rfl, hf0⟩ := hrel
    rename World => wr
    have FR := Lib.hid hf0
    have c0' := (hf0.cell (a := ⟨r, 0, none⟩) P0.out.rr.lt.1 (by simp)).trans c0
    clear hf0
    by_cases hz : z ≤ (M : Int)
    · have CTA := Lib.hid (atagged_any _ ap p g bg cap bs f (P0.out.aa.fr0 FR.out) z)
      have CTR := Lib.hid fun W (hW : Fr [] w W) => rtagged_any W r bb tb cb ct bs f (P0.out.rr.fr0 hW) H256.out z
      have hwz : IntKind.i64.wrap (z + 1) = z + 1 := by simp [IntKind.wrap, IntKind.signed, IntKind.bits]; omega
      obtain ⟨l, hl⟩ : ∃ l, tgP bs.length f z = l := ⟨_, rfl⟩
      rw [hl] at CTA CTR
      have hll : l.length ≤ 16 := by rw [← hl]; exact tgP_len _ _ _
      obtain ⟨n, hn⟩ : ∃ n, l.length = n := ⟨_, rfl⟩
      rw [hn] at CTA CTR hll
      have HN' := Lib.hid hn
      clear hl hn
      go_wp2_with fail
      refine (CTA.out).mono ?_
      rintro e w5 ⟨v1, rfl, ho1, hf5⟩
      have F5 := Lib.hid (FR.out.trans0 hf5)
      obtain ⟨va1, vc1, rfl, -⟩ := own_slice ho1
      have O1 := Lib.hid ho1
      clear ho1 hf5 CTA c0'
      go_wp2_with fail
      refine (CTR.out _ F5.out).mono ?_
      rintro e w6 ⟨v2, rfl, ho2, hf6⟩
      have F6 := Lib.hid (F5.out.trans0 hf6)
      obtain ⟨va2, vc2, rfl, -⟩ := own_slice ho2
      have O2 := Lib.hid ho2
      replace O1 := Lib.hid (own_fr0 O1.out hf6)
      clear ho2 hf6 CTR
      go_wp2_with fail
      go_loopw [10] (fun i wq => ∃ j : Nat, j ≤ n ∧ i = .int .i64 j ∧ Fr [] w6 wq) (fun i _ => n - (intOf i).toNat)
      case atStart => exact ⟨0, by omega, rfl, Fr.refl _ _⟩
      case round =>
        obtain ⟨j, hj, rfl, hf⟩ := hrel
        rename World => wq
        have FQ := Lib.hid hf
        clear hf
        by_cases h8 : j < n
        · obtain ⟨a, hka⟩ : ∃ a, l[j]? = some a := ⟨_, List.getElem?_eq_getElem (by rw [HN'.out]; exact h8)⟩
          obtain ⟨g1, c1, e1', -, -, hg1, hc1, -⟩ := own_open O1.out (by omega)
          obtain ⟨g2, c2, e2', -, -, hg2, hc2, -⟩ := own_open O2.out (by omega)
          injection e1' with x1 x2 x3
          injection e2' with y1 y2 y3
          subst x1 x3 y1 y3
          have d1 := hc1 j h8
          have d2 := hc2 j h8
          rw [u32s_get' l j a hka] at d1 d2
          have D1 := Lib.hid (fun W (hW : Fr [] wq W) => (((FQ.out.trans0 hW).cell (a := ⟨g1, j, none⟩) hg1 (by simp)).trans d1))
          have D2 := Lib.hid (fun W (hW : Fr [] wq W) => (((FQ.out.trans0 hW).cell (a := ⟨g2, j, none⟩) hg2 (by simp)).trans d2))
          have hji : (j : Int) < n := by omega
          clear hka hc1 hc2 d1 d2
          go_wp2_with fail
          refine wp_region_L (fun W => Fr [] wq W) [] (by kernel_rfl) ((Fr.refl _ _).drew) (fun hHeld => ?_)
          refine wpAnyL_take (i := 0) (v := ?_) rfl (by kernel_rfl) (fun _ _ _ h => h) (Or.inl ⟨by rfl, ?_⟩) (by assumption) ?_; rotate_left; (focus (intro w hSw; skip; go_simp; (try with_reducible rfl))); (try (refine wpAnyL_norm (by simp only [Act.put, List.setIfInBounds_toArray, List.set_cons_zero, List.set_cons_succ]; rfl) ?_))
          refine wpAnyL_take (i := 1) (v := ?_) rfl (by kernel_rfl) (fun _ _ _ h => h) (Or.inl ⟨by rfl, ?_⟩) (by assumption) ?_; rotate_left; (focus (intro w hSw; skip; go_simp; (try with_reducible rfl))); (try (refine wpAnyL_norm (by simp only [Act.put, List.setIfInBounds_toArray, List.set_cons_zero, List.set_cons_succ]; rfl) ?_))
          refine wpAnyL_take (i := 2) (v := ?_) rfl (by kernel_rfl) (fun _ _ _ h => h) (Or.inl ⟨by rfl, ?_⟩) (by assumption) ?_; rotate_left; (focus (intro w hSw; skip; go_simp; (try with_reducible rfl))); (try (refine wpAnyL_norm (by simp only [Act.put, List.setIfInBounds_toArray, List.set_cons_zero, List.set_cons_succ]; rfl) ?_))
          refine wpAnyL_take (i := 3) (v := ?_) rfl (by kernel_rfl) (fun _ _ _ h => h) (Or.inl ⟨by rfl, ?_⟩) (by assumption) ?_; rotate_left; (focus (intro w hSw; (have cc := D1.out _ hSw); go_simp; (try with_reducible rfl))); (try (refine wpAnyL_norm (by simp only [Act.put, List.setIfInBounds_toArray, List.set_cons_zero, List.set_cons_succ]; rfl) ?_))
          refine wpAnyL_take (i := 4) (v := ?_) rfl (by kernel_rfl) (fun _ _ _ h => h) (Or.inl ⟨by rfl, ?_⟩) (by assumption) ?_; rotate_left; (focus (intro w hSw; skip; go_simp; (try with_reducible rfl))); (try (refine wpAnyL_norm (by simp only [Act.put, List.setIfInBounds_toArray, List.set_cons_zero, List.set_cons_succ]; rfl) ?_))
          refine wpAnyL_take (i := 5) (v := ?_) rfl (by kernel_rfl) (fun _ _ _ h => h) (Or.inl ⟨by rfl, ?_⟩) (by assumption) ?_; rotate_left; (focus (intro w hSw; skip; go_simp; (try with_reducible rfl))); (try (refine wpAnyL_norm (by simp only [Act.put, List.setIfInBounds_toArray, List.set_cons_zero, List.set_cons_succ]; rfl) ?_))
          refine wpAnyL_take (i := 6) (v := ?_) rfl (by kernel_rfl) (fun _ _ _ h => h) (Or.inl ⟨by rfl, ?_⟩) (by assumption) ?_; rotate_left; (focus (intro w hSw; skip; go_simp; (try with_reducible rfl))); (try (refine wpAnyL_norm (by simp only [Act.put, List.setIfInBounds_toArray, List.set_cons_zero, List.set_cons_succ]; rfl) ?_))
          refine wpAnyL_take (i := 7) (v := ?_) rfl (by kernel_rfl) (fun _ _ _ h => h) (Or.inl ⟨by rfl, ?_⟩) (by assumption) ?_; rotate_left; (focus (intro w hSw; (have cc := D2.out _ hSw); go_simp; (try with_reducible rfl))); (try (refine wpAnyL_norm (by simp only [Act.put, List.setIfInBounds_toArray, List.set_cons_zero, List.set_cons_succ]; rfl) ?_))
          refine wpAnyL_take (i := 8) (v := ?_) rfl (by kernel_rfl) (fun _ _ _ h => h) (Or.inl ⟨by rfl, ?_⟩) (by assumption) ?_; rotate_left; (focus (intro w hSw; skip; go_simp; (try with_reducible rfl))); (try (refine wpAnyL_norm (by simp only [Act.put, List.setIfInBounds_toArray, List.set_cons_zero, List.set_cons_succ]; rfl) ?_))
          refine wpAnyL_done (by kernel_rfl) ?_ _
          have F9 := Lib.hid (FQ.out.trans0 hHeld)
          clear hHeld D1 D2
          go_wp2_with fail
          go_roundw
          case rel => exact ⟨j + 1, by omega, by go_num, F9.out⟩
          case measure => simp [intOf]; omega
        · have F7 := Lib.hid (F6.out.trans0 FQ.out)
          clear FQ O1 O2
          go_wp2_with fail
          go_roundw
          case rel => exact ⟨z + 1, by omega, by omega, rfl, F7.out⟩
          case measure => simp [intOf]; omega
    · go_wp2_with fail
      go_ret
      exact ⟨rfl, FR.out⟩
end Go.Proofs.Ytilgklpponaoeaa
