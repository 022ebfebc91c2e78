/-
  ArenaPlays: the walk. No condition.
-/





import Derived.Test.YtilgklpponaoeaaRSame
import Derived.Test.YtilgklpponaoeaaFitsCap
import Derived.BigRegion
set_option linter.unusedVariables false
namespace Go.Proofs.Ytilgklpponaoeaa
open Go.ChangeShapes Go.WideShapes Go.ChangeAt Go.RowKit
namespace arenaPlays
theorem Fits.app {a b : List Leaf} {cs : List Value} (h : Fits (a ++ b) cs) : ∃ c1 c2, cs = c1 ++ c2 ∧ Fits a c1 ∧ Fits b c2 := by
  have hl := h.len
  rw [List.length_append] at hl
  refine ⟨cs.take a.length, cs.drop a.length, (List.take_append_drop _ _).symm, ⟨by rw [List.length_take]; omega, fun j l hj => ?_⟩, ⟨by rw [List.length_drop]; omega, fun j l hj => ?_⟩⟩
  · have hjl := (List.getElem?_eq_some_iff.1 hj).1
    obtain ⟨v, hv, ok⟩ := h.at_ j l (by rw [List.getElem?_append_left hjl]; exact hj)
    exact ⟨v, by rw [List.getElem?_take, if_pos hjl]; exact hv, ok⟩
  · obtain ⟨v, hv, ok⟩ := h.at_ (a.length + j) l (by rw [List.getElem?_append_right (by omega), Nat.add_sub_cancel_left]; exact hj)
    exact ⟨v, by rw [List.getElem?_drop]; exact hv, ok⟩
theorem fitsDo {cs : List Value} (h : Fits [.i .i64, .i .u32, .i .i64, .i .u32, .i .u32, .i .u8, .i .u16, .i .u16, .i .u16, .i .u16, .i .u32, .b, .s] cs) :
    ∃ (k : Int) (A : Nat) (wd : Int) (v : Nat) (c : Cp) (l : List Nat), cs = (dc k A wd v c l).toList ∧ A < 4294967296 ∧ -9223372036854775808 ≤ wd ∧ wd ≤ 9223372036854775807 ∧ v < 4294967296 ∧ c.Ok ∧ Byt l ∧ l.length ≤ 9223372036854775807 := by
  obtain ⟨v0, c1, rfl, ⟨z0, rfl, w0⟩, h1⟩ := h.cons
  obtain ⟨v1, c2, rfl, ⟨z1, rfl, w1⟩, h2⟩ := h1.cons
  obtain ⟨v2, c3, rfl, ⟨z2, rfl, w2⟩, h3⟩ := h2.cons
  obtain ⟨v3, c4, rfl, ⟨z3, rfl, w3⟩, h4⟩ := h3.cons
  obtain ⟨d1, d2, rfl, k1, k2⟩ := Fits.app (a := [.i .u32, .i .u8, .i .u16, .i .u16, .i .u16, .i .u16, .i .u32, .b]) (b := [.s]) h4
  obtain ⟨c, rfl, hc⟩ := fitsC k1
  obtain ⟨v5, c6, rfl, ⟨s, rfl, hs⟩, h6⟩ := k2.cons
  rw [h6.nil]
  obtain ⟨l, hl, rfl⟩ := str_of s
  rw [BS_size] at hs
  unfold maxLen at hs
  obtain ⟨b10, b11⟩ := bounds_u32 w1
  obtain ⟨b20, b21⟩ := bounds_i64 w2
  obtain ⟨b30, b31⟩ := bounds_u32 w3
  obtain ⟨A, rfl⟩ := Int.eq_ofNat_of_zero_le b10
  obtain ⟨v, rfl⟩ := Int.eq_ofNat_of_zero_le b30
  exact ⟨z0, A, z2, v, c, l, rfl, by omega, by omega, by omega, by omega, hc, hl, by omega⟩
set_option maxHeartbeats 4000000 in
set_option maxRecDepth 100000 in
theorem walk_bad (n e : Int) (h : (n < 16 ∧ e = 2) ∨ (1024 < n ∧ e = 3)) (a1 : Option Addr) (len1 cap1 : Nat) (w : World) :
    Calls Try.prog 3 #[.int .i64 n, .slice a1 len1 cap1] w fun e w' => e = .returned (.bool true) ∧ Fr [] w w' := by
  have C1 := Lib.hid (anew_bad w n e h)
  have C2 := Lib.hid (rnewA_bad w n e h)
  have e0 : ¬ e = 0 := by omega
  have e1 : (e == 0) = false := beq_false_of_ne e0
  clear h
  go_enter Try.func3, Try.ntmps3
  go_wp2_with fail
  refine (C1.out).mono ?_
  rintro x w' ⟨rfl, rfl⟩
  go_wp2_with fail
  refine (C2.out).mono ?_
  rintro x w' ⟨rfl, rfl⟩
  go_upto_region 3 with (fail)
  refine wp_region_L (fun W => Fr [] w W) [] (by kernel_rfl) ((Fr.refl _ _).drew) (fun hHeld => ?_)
  refine wpAnyL_take (i := 0) (v := ?_) rfl (by kernel_rfl) (fun _ _ _ h => h) (Or.inl ⟨by rfl, ?_⟩) (by assumption) ?_; rotate_left; (focus (intro w hSw; skip; go_simp; (try with_reducible rfl))); (try (refine wpAnyL_norm (by simp only [Act.put, List.setIfInBounds_toArray, List.set_cons_zero, List.set_cons_succ]; rfl) ?_))
  refine wpAnyL_take (i := 1) (v := ?_) rfl (by kernel_rfl) (fun _ _ _ h => h) (Or.inl ⟨by rfl, ?_⟩) (by assumption) ?_; rotate_left; (focus (intro w hSw; skip; go_simp; (try with_reducible rfl))); (try (refine wpAnyL_norm (by simp only [Act.put, List.setIfInBounds_toArray, List.set_cons_zero, List.set_cons_succ]; rfl) ?_))
  refine wpAnyL_take (i := 2) (v := ?_) rfl (by kernel_rfl) (fun _ _ _ h => h) (Or.inl ⟨by rfl, ?_⟩) (by assumption) ?_; rotate_left; (focus (intro w hSw; skip; go_simp; (try with_reducible rfl))); (try (refine wpAnyL_norm (by simp only [Act.put, List.setIfInBounds_toArray, List.set_cons_zero, List.set_cons_succ]; rfl) ?_))
  refine wpAnyL_take (i := 3) (v := ?_) rfl (by kernel_rfl) (fun _ _ _ h => h) (Or.inl ⟨by rfl, ?_⟩) (by assumption) ?_; rotate_left; (focus (intro w hSw; skip; go_simp; (try with_reducible rfl))); (try (refine wpAnyL_norm (by simp only [Act.put, List.setIfInBounds_toArray, List.set_cons_zero, List.set_cons_succ]; rfl) ?_))
  refine wpAnyL_take (i := 4) (v := ?_) rfl (by kernel_rfl) (fun _ _ _ h => h) (Or.inl ⟨by rfl, ?_⟩) (by assumption) ?_; rotate_left; (focus (intro w hSw; skip; go_simp; (try with_reducible rfl))); (try (refine wpAnyL_norm (by simp only [Act.put, List.setIfInBounds_toArray, List.set_cons_zero, List.set_cons_succ]; rfl) ?_))
  refine wpAnyL_take (i := 5) (v := ?_) rfl (by kernel_rfl) (fun _ _ _ h => h) (Or.inl ⟨by rfl, ?_⟩) (by assumption) ?_; rotate_left; (focus (intro w hSw; skip; go_simp; (try with_reducible rfl))); (try (refine wpAnyL_norm (by simp only [Act.put, List.setIfInBounds_toArray, List.set_cons_zero, List.set_cons_succ]; rfl) ?_))
  refine wpAnyL_take (i := 6) (v := ?_) rfl (by kernel_rfl) (fun _ _ _ h => h) (Or.inl ⟨by rfl, ?_⟩) (by assumption) ?_; rotate_left; (focus (intro w hSw; skip; go_simp; (try with_reducible rfl))); (try (refine wpAnyL_norm (by simp only [Act.put, List.setIfInBounds_toArray, List.set_cons_zero, List.set_cons_succ]; rfl) ?_))
  refine wpAnyL_take (i := 7) (v := ?_) rfl (by kernel_rfl) (fun _ _ _ h => h) (Or.inl ⟨by rfl, ?_⟩) (by assumption) ?_; rotate_left; (focus (intro w hSw; skip; go_simp; (try with_reducible rfl))); (try (refine wpAnyL_norm (by simp only [Act.put, List.setIfInBounds_toArray, List.set_cons_zero, List.set_cons_succ]; rfl) ?_))
  refine wpAnyL_take (i := 8) (v := ?_) rfl (by kernel_rfl) (fun _ _ _ h => h) (Or.inl ⟨by rfl, ?_⟩) (by assumption) ?_; rotate_left; (focus (intro w hSw; skip; go_simp; (try with_reducible rfl))); (try (refine wpAnyL_norm (by simp only [Act.put, List.setIfInBounds_toArray, List.set_cons_zero, List.set_cons_succ]; rfl) ?_))
  refine wpAnyL_take (i := 9) (v := ?_) rfl (by kernel_rfl) (fun _ _ _ h => h) (Or.inl ⟨by rfl, ?_⟩) (by assumption) ?_; rotate_left; (focus (intro w hSw; skip; go_simp; (try with_reducible rfl))); (try (refine wpAnyL_norm (by simp only [Act.put, List.setIfInBounds_toArray, List.set_cons_zero, List.set_cons_succ]; rfl) ?_))
  refine wpAnyL_take (i := 10) (v := ?_) rfl (by kernel_rfl) (fun _ _ _ h => h) (Or.inl ⟨by rfl, ?_⟩) (by assumption) ?_; rotate_left; (focus (intro w hSw; skip; go_simp; (try with_reducible rfl))); (try (refine wpAnyL_norm (by simp only [Act.put, List.setIfInBounds_toArray, List.set_cons_zero, List.set_cons_succ]; rfl) ?_))
  refine wpAnyL_take (i := 11) (v := ?_) rfl (by kernel_rfl) (fun _ _ _ h => h) (Or.inl ⟨by rfl, ?_⟩) (by assumption) ?_; rotate_left; (focus (intro w hSw; skip; go_simp; (try with_reducible rfl))); (try (refine wpAnyL_norm (by simp only [Act.put, List.setIfInBounds_toArray, List.set_cons_zero, List.set_cons_succ]; rfl) ?_))
  refine wpAnyL_take (i := 12) (v := ?_) rfl (by kernel_rfl) (fun _ _ _ h => h) (Or.inl ⟨by rfl, ?_⟩) (by assumption) ?_; rotate_left; (focus (intro w hSw; skip; go_simp; (try with_reducible rfl))); (try (refine wpAnyL_norm (by simp only [Act.put, List.setIfInBounds_toArray, List.set_cons_zero, List.set_cons_succ]; rfl) ?_))
  refine wpAnyL_take (i := 13) (v := ?_) rfl (by kernel_rfl) (fun _ _ _ h => h) (Or.inl ⟨by rfl, ?_⟩) (by assumption) ?_; rotate_left; (focus (intro w hSw; skip; go_simp; (try with_reducible rfl))); (try (refine wpAnyL_norm (by simp only [Act.put, List.setIfInBounds_toArray, List.set_cons_zero, List.set_cons_succ]; rfl) ?_))
  refine wpAnyL_take (i := 14) (v := undef) rfl (by kernel_rfl) (fun _ _ _ h => h) (Or.inr ⟨by rfl, rfl⟩) (by assumption) ?_; (try (refine wpAnyL_norm (by simp only [Act.put, List.setIfInBounds_toArray, List.set_cons_zero, List.set_cons_succ]; rfl) ?_))
  refine wpAnyL_take (i := 15) (v := undef) rfl (by kernel_rfl) (fun _ _ _ h => h) (Or.inr ⟨by rfl, rfl⟩) (by assumption) ?_; (try (refine wpAnyL_norm (by simp only [Act.put, List.setIfInBounds_toArray, List.set_cons_zero, List.set_cons_succ]; rfl) ?_))
  refine wpAnyL_take (i := 16) (v := undef) rfl (by kernel_rfl) (fun _ _ _ h => h) (Or.inr ⟨by rfl, rfl⟩) (by assumption) ?_; (try (refine wpAnyL_norm (by simp only [Act.put, List.setIfInBounds_toArray, List.set_cons_zero, List.set_cons_succ]; rfl) ?_))
  refine wpAnyL_take (i := 17) (v := undef) rfl (by kernel_rfl) (fun _ _ _ h => h) (Or.inr ⟨by rfl, rfl⟩) (by assumption) ?_; (try (refine wpAnyL_norm (by simp only [Act.put, List.setIfInBounds_toArray, List.set_cons_zero, List.set_cons_succ]; rfl) ?_))
  refine wpAnyL_take (i := 18) (v := undef) rfl (by kernel_rfl) (fun _ _ _ h => h) (Or.inr ⟨by rfl, rfl⟩) (by assumption) ?_; (try (refine wpAnyL_norm (by simp only [Act.put, List.setIfInBounds_toArray, List.set_cons_zero, List.set_cons_succ]; rfl) ?_))
  refine wpAnyL_take (i := 19) (v := undef) rfl (by kernel_rfl) (fun _ _ _ h => h) (Or.inr ⟨by rfl, rfl⟩) (by assumption) ?_; (try (refine wpAnyL_norm (by simp only [Act.put, List.setIfInBounds_toArray, List.set_cons_zero, List.set_cons_succ]; rfl) ?_))
  refine wpAnyL_take (i := 20) (v := undef) rfl (by kernel_rfl) (fun _ _ _ h => h) (Or.inr ⟨by rfl, rfl⟩) (by assumption) ?_; (try (refine wpAnyL_norm (by simp only [Act.put, List.setIfInBounds_toArray, List.set_cons_zero, List.set_cons_succ]; rfl) ?_))
  refine wpAnyL_take (i := 21) (v := undef) rfl (by kernel_rfl) (fun _ _ _ h => h) (Or.inr ⟨by rfl, rfl⟩) (by assumption) ?_; (try (refine wpAnyL_norm (by simp only [Act.put, List.setIfInBounds_toArray, List.set_cons_zero, List.set_cons_succ]; rfl) ?_))
  refine wpAnyL_take (i := 22) (v := ?_) rfl (by kernel_rfl) (fun _ _ _ h => h) (Or.inl ⟨by rfl, ?_⟩) (by assumption) ?_; rotate_left; (focus (intro w hSw; skip; go_simp; (try with_reducible rfl))); (try (refine wpAnyL_norm (by simp only [Act.put, List.setIfInBounds_toArray, List.set_cons_zero, List.set_cons_succ]; rfl) ?_))
  refine wpAnyL_take (i := 23) (v := ?_) rfl (by kernel_rfl) (fun _ _ _ h => h) (Or.inl ⟨by rfl, ?_⟩) (by assumption) ?_; rotate_left; (focus (intro w hSw; skip; go_simp; (try with_reducible rfl))); (try (refine wpAnyL_norm (by simp only [Act.put, List.setIfInBounds_toArray, List.set_cons_zero, List.set_cons_succ]; rfl) ?_))
  refine wpAnyL_done (by kernel_rfl) ?_ _
  have F2 := Lib.hid hHeld
  clear hHeld C1 C2
  go_wp2_with fail
  go_loopw [5, 9, 10] (fun a i c wr => a = .pointer none ∧ i = .int .i64 0 ∧ Fr [] w wr) (fun _ _ _ _ => 0)
  case atStart => exact ⟨rfl, rfl, F2.out⟩
  case round =>
    clear F2
    obtain ⟨rfl, rfl, hf⟩ := hrel
    have HF := Lib.hid hf
    clear hf
    by_cases h0 : 0 < len1
    · have h0i : (0 : Int) < (len1 : Int) := by omega
      have hd : decide ((0 : Int) < (len1 : Int)) = true := by simpa using h0i
      go_wp2_with fail
      refine (works_any _).mono ?_
      rintro e w3 ⟨rfl, hf3⟩
      go_wp2_with fail
      go_ret
      exact ⟨rfl, HF.out.trans0 hf3⟩
    · obtain rfl : len1 = 0 := by omega
      go_wp2_with fail
      refine (works_any _).mono ?_
      rintro e w3 ⟨rfl, hf3⟩
      go_wp2_with fail
      go_ret
      exact ⟨rfl, HF.out.trans0 hf3⟩
def vC : Cp := ⟨0, 0, 0, 0, 0, 0, 0, true⟩
theorem vC_ok : vC.Ok := ⟨by decide, by decide, by decide, by decide, by decide, by decide, by decide⟩
set_option maxHeartbeats 8000000 in
set_option maxRecDepth 100000 in
theorem walk_ok (n : Nat) (h1 : 16 ≤ n) (h2 : n ≤ 1024) (a1 : Option Addr) (len1 cap1 : Nat) (w : World) (w1 : Elems w a1 len1 [.i .i64, .i .u32, .i .i64, .i .u32, .i .u32, .i .u8, .i .u16, .i .u16, .i .u16, .i .u16, .i .u32, .b, .s]) :
    Calls Try.prog 3 #[.int .i64 n, .slice a1 len1 cap1] w fun e w' => e = .returned (.bool true) ∧ Fr [] w w' := by
  have CN := Lib.hid (anew_any w n h1 h2)
  have CR := Lib.hid fun W => rnewA_any W n h1 h2
  obtain ⟨hlen, hrec⟩ := w1
  have Hrec := Lib.hid hrec
  have HLN := Lib.hid (show (List.replicate (256 * n) 0).length = 256 * n by simp)
  obtain ⟨N, hN⟩ : ∃ N, 256 * n = N := ⟨_, rfl⟩
  have HN := Lib.hid (show N % 256 = 0 by omega)
  rw [hN] at CN CR HLN
  clear hN h1 h2 hrec
  unfold newPost at CR
  have HI := Lib.hid (show ∀ k A wd v c l, (Try.prog.info? 40).map (·.size) = some (dc k A wd v c l).toList.length by intro k A wd v c l; kernel_rfl)
  go_enter Try.func3, Try.ntmps3
  go_wp2_with fail
  refine (CN.out).mono ?_
  rintro e w2 ⟨ap, p, g, bg, cap, rfl, ha, i1, i2, i3, i4, hf2⟩
  have hal := ha.lt
  have HA := Lib.hid ha
  have HF2 := Lib.hid hf2
  have hs2 := hf2.size
  clear ha hf2 CN
  go_wp2_with fail
  refine (CR.out _).mono ?_
  rintro e w3 ⟨r, bb, tb, cb, ct, rfl, hr, j1, j2, j3, hf3⟩
  have HF3 := Lib.hid (HF2.out.trans0 hf3)
  have P3 : Hid (Pr w3 ap p g bg cap r bb tb cb ct (List.replicate N 0) (fun _ => false)) := Lib.hid ⟨HA.out.fr0 hf3, hr, by omega⟩
  have HLO := Lib.hid (show (w.heap.size ≤ g ∧ w.heap.size ≤ bg) ∧ (w.heap.size ≤ r ∧ w.heap.size ≤ bb ∧ w.heap.size ≤ tb) by omega)
  have HLB := Lib.hid HLO.out.2
  obtain ⟨B, hB⟩ : ∃ B, List.replicate N 0 = B := ⟨_, rfl⟩
  rw [hB] at P3 HLN
  clear hr hf3 HF2 HA CR hB hs2 hal i1 i2 i3 i4 j1 j2 j3
  go_upto_region 3 with (fail)
  have CS := Lib.hid fun W (hW : Fr [] w3 W) => asize_any _ _ _ _ _ _ _ _ (P3.out.aa.fr0 hW)
  have C0 := Lib.hid fun W (hW : Fr [] w3 W) => (P3.out.fr0 hW).rr.c0
  rw [HLN.out] at CS C0
  refine wp_region_L (fun W => Fr [] w3 W) [] (by kernel_rfl) ((Fr.refl _ _).drew) (fun hHeld => ?_)
  refine wpAnyL_take (i := 0) (v := ?_) rfl (by kernel_rfl) (fun _ _ _ h => h) (Or.inl ⟨by rfl, ?_⟩) (by assumption) ?_; rotate_left; (focus (intro w hSw; skip; go_simp; (try with_reducible rfl))); (try (refine wpAnyL_norm (by simp only [Act.put, List.setIfInBounds_toArray, List.set_cons_zero, List.set_cons_succ]; rfl) ?_))
  refine wpAnyL_take (i := 1) (v := ?_) rfl (by kernel_rfl) (fun _ _ _ h => h) (Or.inl ⟨by rfl, ?_⟩) (by assumption) ?_; rotate_left; (focus (intro w hSw; skip; go_simp; (try with_reducible rfl))); (try (refine wpAnyL_norm (by simp only [Act.put, List.setIfInBounds_toArray, List.set_cons_zero, List.set_cons_succ]; rfl) ?_))
  refine wpAnyL_take (i := 2) (v := ?_) rfl (by kernel_rfl) (fun _ _ _ h => h) (Or.inl ⟨by rfl, ?_⟩) (by assumption) ?_; rotate_left; (focus (intro w hSw; skip; go_simp; (try with_reducible rfl))); (try (refine wpAnyL_norm (by simp only [Act.put, List.setIfInBounds_toArray, List.set_cons_zero, List.set_cons_succ]; rfl) ?_))
  refine wpAnyL_take (i := 3) (v := ?_) rfl (by kernel_rfl) (fun _ _ _ h => h) (Or.inl ⟨by rfl, ?_⟩) (by assumption) ?_; rotate_left; (focus (intro w hSw; skip; go_simp; (try with_reducible rfl))); (try (refine wpAnyL_norm (by simp only [Act.put, List.setIfInBounds_toArray, List.set_cons_zero, List.set_cons_succ]; rfl) ?_))
  refine wpAnyL_take (i := 4) (v := ?_) rfl (by kernel_rfl) (fun _ _ _ h => h) (Or.inl ⟨by rfl, ?_⟩) (by assumption) ?_; rotate_left; (focus (intro w hSw; skip; go_simp; (try with_reducible rfl))); (try (refine wpAnyL_norm (by simp only [Act.put, List.setIfInBounds_toArray, List.set_cons_zero, List.set_cons_succ]; rfl) ?_))
  refine wpAnyL_take (i := 5) (v := ?_) rfl (by kernel_rfl) (fun _ _ _ h => h) (Or.inl ⟨by rfl, ?_⟩) (by assumption) ?_; rotate_left; (focus (intro w hSw; skip; go_simp; (try with_reducible rfl))); (try (refine wpAnyL_norm (by simp only [Act.put, List.setIfInBounds_toArray, List.set_cons_zero, List.set_cons_succ]; rfl) ?_))
  refine wpAnyL_take (i := 6) (v := ?_) rfl (by kernel_rfl) (fun _ _ _ h => h) (Or.inl ⟨by rfl, ?_⟩) (by assumption) ?_; rotate_left; (focus (intro w hSw; skip; go_simp; (try with_reducible rfl))); (try (refine wpAnyL_norm (by simp only [Act.put, List.setIfInBounds_toArray, List.set_cons_zero, List.set_cons_succ]; rfl) ?_))
  refine wpAnyL_take (i := 7) (v := ?_) rfl (by kernel_rfl) (fun _ _ _ h => h) (Or.inl ⟨by rfl, ?_⟩) (by assumption) ?_; rotate_left; (focus (intro w hSw; skip; go_simp; (try with_reducible rfl))); (try (refine wpAnyL_norm (by simp only [Act.put, List.setIfInBounds_toArray, List.set_cons_zero, List.set_cons_succ]; rfl) ?_))
  refine wpAnyL_take (i := 8) (v := ?_) rfl (by kernel_rfl) (fun _ _ _ h => h) (Or.inl ⟨by rfl, ?_⟩) (by assumption) ?_; rotate_left; (focus (intro w hSw; skip; go_simp; (try with_reducible rfl))); (try (refine wpAnyL_norm (by simp only [Act.put, List.setIfInBounds_toArray, List.set_cons_zero, List.set_cons_succ]; rfl) ?_))
  refine wpAnyL_take (i := 9) (v := ?_) rfl (by kernel_rfl) (fun _ _ _ h => h) (Or.inl ⟨by rfl, ?_⟩) (by assumption) ?_; rotate_left; (focus (intro w hSw; skip; go_simp; (try with_reducible rfl))); (try (refine wpAnyL_norm (by simp only [Act.put, List.setIfInBounds_toArray, List.set_cons_zero, List.set_cons_succ]; rfl) ?_))
  refine wpAnyL_take (i := 10) (v := ?_) rfl (by kernel_rfl) (fun _ _ _ h => h) (Or.inl ⟨by rfl, ?_⟩) (by assumption) ?_; rotate_left; (focus (intro w hSw; skip; go_simp; (try with_reducible rfl))); (try (refine wpAnyL_norm (by simp only [Act.put, List.setIfInBounds_toArray, List.set_cons_zero, List.set_cons_succ]; rfl) ?_))
  refine wpAnyL_take (i := 11) (v := ?_) rfl (by kernel_rfl) (fun _ _ _ h => h) (Or.inl ⟨by rfl, ?_⟩) (by assumption) ?_; rotate_left; (focus (intro w hSw; skip; go_simp; (try with_reducible rfl))); (try (refine wpAnyL_norm (by simp only [Act.put, List.setIfInBounds_toArray, List.set_cons_zero, List.set_cons_succ]; rfl) ?_))
  refine wpAnyL_take (i := 12) (v := ?_) rfl (by kernel_rfl) (fun _ _ _ h => h) (Or.inl ⟨by rfl, ?_⟩) (by assumption) ?_; rotate_left; (focus (intro w hSw; skip; go_simp; (try with_reducible rfl))); (try (refine wpAnyL_norm (by simp only [Act.put, List.setIfInBounds_toArray, List.set_cons_zero, List.set_cons_succ]; rfl) ?_))
  refine wpAnyL_take (i := 13) (v := ?_) rfl (by kernel_rfl) (fun _ _ _ h => h) (Or.inl ⟨by rfl, ?_⟩) (by assumption) ?_; rotate_left; (focus (intro w hSw; skip; go_simp; (try with_reducible rfl))); (try (refine wpAnyL_norm (by simp only [Act.put, List.setIfInBounds_toArray, List.set_cons_zero, List.set_cons_succ]; rfl) ?_))
  refine wpAnyL_take (i := 14) (v := ?_) rfl (by kernel_rfl) (fun _ _ _ h => h) (Or.inl ⟨by rfl, ?_⟩) (by assumption) ?_; rotate_left; (focus (intro w hSw; skip; go_simp; (try with_reducible rfl))); (try (refine wpAnyL_norm (by simp only [Act.put, List.setIfInBounds_toArray, List.set_cons_zero, List.set_cons_succ]; rfl) ?_))
  refine wpAnyL_take (i := 16) (v := ?_) rfl (by kernel_rfl) (fun _ _ _ h => h) (Or.inl ⟨by rfl, ?_⟩) (by assumption) ?_; rotate_left; (focus (intro w hSw; skip; go_simp; (try with_reducible rfl))); (try (refine wpAnyL_norm (by simp only [Act.put, List.setIfInBounds_toArray, List.set_cons_zero, List.set_cons_succ]; rfl) ?_))
  refine wpAnyL_take (i := 17) (v := ?_) rfl (by kernel_rfl) (fun _ _ _ h => h) (Or.inl ⟨by rfl, ?_⟩) (by assumption) ?_; rotate_left; (focus (intro w hSw; skip; go_simp; (try with_reducible rfl))); (try (refine wpAnyL_norm (by simp only [Act.put, List.setIfInBounds_toArray, List.set_cons_zero, List.set_cons_succ]; rfl) ?_))
  refine wpAnyL_take (i := 18) (v := ?_) rfl (by kernel_rfl) (fun _ _ _ h => h) (Or.inl ⟨by rfl, ?_⟩) (by assumption) ?_; rotate_left; (focus (intro w hSw; skip; go_simp; (try with_reducible rfl))); (try (refine wpAnyL_norm (by simp only [Act.put, List.setIfInBounds_toArray, List.set_cons_zero, List.set_cons_succ]; rfl) ?_))
  refine wpAnyL_take (i := 19) (v := ?_) rfl (by kernel_rfl) (fun _ _ _ h => h) (Or.inl ⟨by rfl, ?_⟩) (by assumption) ?_; rotate_left; (focus (intro w hSw; (have cc := C0.out _ hSw); go_simp; (try with_reducible rfl))); (try (refine wpAnyL_norm (by simp only [Act.put, List.setIfInBounds_toArray, List.set_cons_zero, List.set_cons_succ]; rfl) ?_))
  refine wpAnyL_take (i := 20) (v := ?_) rfl (by kernel_rfl) (fun _ _ _ h => h) (Or.inl ⟨by rfl, ?_⟩) (by assumption) ?_; rotate_left; (focus (intro w hSw; skip; go_simp; (try with_reducible rfl))); (try (refine wpAnyL_norm (by simp only [Act.put, List.setIfInBounds_toArray, List.set_cons_zero, List.set_cons_succ]; rfl) ?_))
  refine wpAnyL_ready (rs := [15]) (by kernel_rfl) (by simp) ?_; refine AllReadyL.cons rfl (fun K hK => ?_) AllReadyL.nil
  go_simp
  refine (CS.out _ hHeld).mono ?_
  rintro e w4 ⟨rfl, rfl⟩
  refine hK.out _ _ (fun _ => hHeld) (fun hHeld' => ?_); have hHeld := hHeld' (by decide); clear hHeld' hK K; (try (refine wpAnyL_norm (by simp only [Act.put, List.setIfInBounds_toArray, List.set_cons_zero, List.set_cons_succ]; rfl) ?_))
  refine wpAnyL_take (i := 21) (v := ?_) rfl (by kernel_rfl) (fun _ _ _ h => h) (Or.inl ⟨by rfl, ?_⟩) (by assumption) ?_; rotate_left; (focus (intro w hSw; skip; go_simp; (try with_reducible rfl))); (try (refine wpAnyL_norm (by simp only [Act.put, List.setIfInBounds_toArray, List.set_cons_zero, List.set_cons_succ]; rfl) ?_))
  refine wpAnyL_take (i := 22) (v := ?_) rfl (by kernel_rfl) (fun _ _ _ h => h) (Or.inl ⟨by rfl, ?_⟩) (by assumption) ?_; rotate_left; (focus (intro w hSw; skip; go_simp; (try with_reducible rfl))); (try (refine wpAnyL_norm (by simp only [Act.put, List.setIfInBounds_toArray, List.set_cons_zero, List.set_cons_succ]; rfl) ?_))
  refine wpAnyL_take (i := 23) (v := ?_) rfl (by kernel_rfl) (fun _ _ _ h => h) (Or.inl ⟨by rfl, ?_⟩) (by assumption) ?_; rotate_left; (focus (intro w hSw; skip; go_simp; (try with_reducible rfl))); (try (refine wpAnyL_norm (by simp only [Act.put, List.setIfInBounds_toArray, List.set_cons_zero, List.set_cons_succ]; rfl) ?_))
  refine wpAnyL_done (by kernel_rfl) ?_ _
  have P4 := Lib.hid (P3.out.fr0 hHeld)
  have F4 := Lib.hid (HF3.out.trans0 hHeld)
  clear hHeld CS C0 P3 HF3
  go_wp2_with fail
  go_loopw [5, 9, 10] (fun a i c wr => ∃ (j ap p g bg cap : Nat) (bs : List Nat) (f : Nat → Bool), j ≤ len1 ∧ a = .pointer (some ⟨ap, 0, none⟩) ∧ i = .int .i64 j ∧ bs.length = N ∧ Pr wr ap p g bg cap r bb tb cb ct bs f ∧ (w.heap.size ≤ g ∧ w.heap.size ≤ bg) ∧ Fr [] w wr) (fun _ i _ _ => len1 - (intOf i).toNat)
  case atStart => exact ⟨0, ap, p, g, bg, cap, B, _, by omega, rfl, rfl, HLN.out, P4.out, HLO.out.1, F4.out⟩
  case round =>
    clear P4 F4 HLN HLO
    obtain ⟨j, aq, pq, gq, bq, cq, bs, f, hj, rfl, rfl, hbl, hp, hgb, hf0⟩ := hrel
    rename World => wr
    have P5 := Lib.hid hp
    have F5 := Lib.hid hf0
    have HBL := Lib.hid hbl
    have HGB := Lib.hid hgb
    clear hp hf0 hbl hgb
    by_cases h5 : j < len1
    · by_cases h6 : j < 30
      · obtain ⟨b, off, rfl, hb, hcells⟩ := Hrec.out.resolve_left (by omega)
        obtain ⟨cs, hfit, hcs⟩ := hcells j h5
        obtain ⟨k, A, wd, v, c, l, rfl, hA, k1, k2, hv, hc, hb8, hl⟩ := fitsDo hfit
        simp only [List.length_cons, List.length_nil, Nat.zero_add, Nat.reduceAdd] at hcs
        have HCS := Lib.hid fun W (hW : Fr [] w W) (q : Nat) x (hx : (dc k A wd v c l).toList[q]? = some x) => (show W.cell? ((⟨b, off + j * 13, none⟩ : Addr).add q) = some x from by
          have hq : q < 13 := (List.getElem?_eq_some_iff.1 hx).1
          rw [Go.WideShapes.add_plain, Nat.add_assoc, (hW.cell (a := ⟨b, off + (j * 13 + q), none⟩) hb (by simp)), hcs q hq, hx])
        have hc0 := HCS.out wr F5.out 0 (.int .i64 k) rfl
        rw [Go.WideShapes.add_plain, Nat.add_zero] at hc0
        obtain ⟨m, m1, m2, m3, m4, m5⟩ := kind_facts k
        obtain ⟨q, hq⟩ : ∃ q, kindOf k = q := ⟨_, rfl⟩
        rw [hq] at m4 m5
        have hjl : (j : Int) < (len1 : Int) := by omega
        have hj3 : (j : Int) < 30 := by omega
        clear hcs hcells hfit hq
        by_cases h7 : q = 6
        · subst h7
          have CC := Lib.hid (acopy_any _ _ _ _ _ _ _ _ P5.out.aa)
          go_wp2_with fail
          refine CC.out.mono ?_
          rintro e w6 ⟨a6, p6, g6, b6, c6, rfl, h6', l1, l2, l3, l4, hf6⟩
          have A6 := Lib.hid h6'
          have X6 := Lib.hid (P5.out.aa.fr0 hf6)
          have R6 := Lib.hid (P5.out.rr.fr0 hf6)
          have F6 := Lib.hid (F5.out.trans0 hf6)
          have L6 := Lib.hid (show (aq < wr.heap.size ∧ pq < wr.heap.size ∧ gq < wr.heap.size ∧ bq < wr.heap.size) ∧ (r < wr.heap.size ∧ bb < wr.heap.size ∧ tb < wr.heap.size) ∧ wr.heap.size ≤ a6 ∧ wr.heap.size ≤ p6 ∧ wr.heap.size ≤ g6 ∧ wr.heap.size ≤ b6 ∧ w.heap.size ≤ wr.heap.size from ⟨P5.out.aa.lt, P5.out.rr.lt, l1, l2, l3, l4, F5.out.size⟩)
          have CSC := Lib.hid (astorec_b _ _ _ _ _ _ _ _ X6.out 0 (by omega) vC vC_ok)
          unfold Cp.cells vC at CSC
          obtain ⟨B1, hB1⟩ : ∃ B, whB bs.length 0 = B := ⟨_, rfl⟩
          rw [hB1] at CSC
          clear h6' l1 l2 l3 l4 hf6 CC hB1
          go_wp2_with fail
          refine CSC.out.mono ?_
          rintro e w7 ⟨rfl, h7', hf7⟩
          have X7 := Lib.hid h7'
          have A7 := Lib.hid (A6.out.fr hf7 (by have := L6.out; simp; omega) (by have := L6.out; simp; omega) (by have := L6.out; simp; omega) (by have := L6.out; simp; omega))
          have R7 := Lib.hid (R6.out.fr hf7 (by have := P5.out.d; simp; omega) (by have := P5.out.d; simp; omega) (by have := P5.out.d; simp; omega))
          have F7 := Lib.hid (F6.out.trans hf7 (fun x hx => .inr (by have := HGB.out; simp at hx; omega)))
          have CST := Lib.hid (astore_b _ _ _ _ _ _ _ _ X7.out 20 (by omega) 4 77 (by omega))
          clear h7' hf7 A6 X6 R6 F6 CSC
          obtain ⟨B2, hB2⟩ : ∃ B, okE (scL bs 0 vC).length 20 4 = B := ⟨_, rfl⟩
          unfold vC at hB2
          rw [hB2] at CST
          clear hB2
          go_wp2_with fail
          refine CST.out.mono ?_
          rintro e w8 ⟨rfl, h8', hf8⟩
          have A8 := Lib.hid (A7.out.fr hf8 (by have := L6.out; simp; omega) (by have := L6.out; simp; omega) (by have := L6.out; simp; omega) (by have := L6.out; simp; omega))
          have R8 := Lib.hid (R7.out.fr hf8 (by have := P5.out.d; simp; omega) (by have := P5.out.d; simp; omega) (by have := P5.out.d; simp; omega))
          have F8 := Lib.hid (F7.out.trans hf8 (fun x hx => .inr (by have := HGB.out; simp at hx; omega)))
          clear h8' hf8 A7 X7 R7 F7 CST
          go_wp2_with fail
          go_roundw
          case rel => exact ⟨j + 1, a6, p6, g6, b6, c6, bs, f, by omega, rfl, by go_num, HBL.out, ⟨A8.out, R8.out, by have := L6.out; omega⟩, by have := L6.out; omega, F8.out⟩
          case measure => simp [intOf]; omega
        · have ST := Lib.hid (step_any wr aq pq gq bq cq r bb tb cb ct bs f P5.out k A hA wd k1 k2 v hv c hc l hb8 hl)
          unfold stepPost at ST
          go_wp2_with (refine wpList_load_at (by rfl) 40 (.tmp 80) rfl ⟨b, off + j * 13, none⟩ rfl (dc k A wd v c l).toList _ (HCS.out wr F5.out) Try.underlying40 rfl (HI.out k A wd v c l) ?_)
          refine ST.out.mono ?_
          rintro e w6 ⟨bs', f', rfl, h6', hf6, hl6⟩
          have P6 := Lib.hid h6'
          have HL6 := Lib.hid hl6
          have F6 := Lib.hid (F5.out.trans hf6 (fun x hx => .inr (by have := HGB.out; have := HLB.out; simp at hx; omega)))
          clear h6' hf6 hl6 ST
          go_wp2_with fail
          go_roundw
          case rel => exact ⟨j + 1, aq, pq, gq, bq, cq, bs', f', by omega, rfl, by go_num, HL6.out.trans HBL.out, P6.out, HGB.out, F6.out⟩
          case measure => simp [intOf]; omega
      · have hjl : (j : Int) < (len1 : Int) := by omega
        have hj3 : ¬ (j : Int) < 30 := by omega
        have CSM := Lib.hid (same_any _ _ _ _ _ _ _ _ _ _ _ _ _ P5.out (by rw [HBL.out]; exact HN.out))
        go_wp2_with fail
        refine CSM.out.mono ?_
        rintro e w6 ⟨rfl, hf6⟩
        have F6 := Lib.hid (F5.out.trans0 hf6)
        clear hf6 CSM
        go_wp2_with fail
        refine (works_any _).mono ?_
        rintro e w9 ⟨rfl, hf9⟩
        go_wp2_with fail
        go_ret
        exact ⟨rfl, F6.out.trans0 hf9⟩
    · have hjl : ¬ (j : Int) < (len1 : Int) := by omega
      have CSM := Lib.hid (same_any _ _ _ _ _ _ _ _ _ _ _ _ _ P5.out (by rw [HBL.out]; exact HN.out))
      go_wp2_with fail
      refine CSM.out.mono ?_
      rintro e w6 ⟨rfl, hf6⟩
      have F6 := Lib.hid (F5.out.trans0 hf6)
      clear hf6 CSM
      go_wp2_with fail
      refine (works_any _).mono ?_
      rintro e w9 ⟨rfl, hf9⟩
      go_wp2_with fail
      go_ret
      exact ⟨rfl, F6.out.trans0 hf9⟩
theorem walk (a0 : Int) (w0 : (Lit.int .i64 a0).wf = true) (a1 : Option Addr) (len1 cap1 : Nat) (w : World) (w1 : Elems w a1 len1 [.i .i64, .i .u32, .i .i64, .i .u32, .i .u32, .i .u8, .i .u16, .i .u16, .i .u16, .i .u16, .i .u32, .b, .s]) :
    Calls Try.prog 3 #[.int .i64 a0, .slice a1 len1 cap1] w fun e w' => e = .returned (.bool true) ∧ Fr [] w w' := by
  by_cases h1 : a0 < 16
  · exact walk_bad a0 2 (.inl ⟨h1, rfl⟩) a1 len1 cap1 w
  · by_cases h2 : 1024 < a0
    · exact walk_bad a0 3 (.inr ⟨h2, rfl⟩) a1 len1 cap1 w
    · obtain ⟨n, rfl⟩ := Int.eq_ofNat_of_zero_le (show 0 ≤ a0 by omega)
      exact walk_ok n (by omega) (by omega) a1 len1 cap1 w w1
theorem laidOut : laidOutB Try.prog = true := by kernel_rfl
set_option maxRecDepth 100000 in
theorem lifted (os : Os) (started : os.Started) (H : Type) (enc : TypeId × Value → H) :
    ReturnsInHanded {} Try.checked os 3 .any (Rows.arenaPlaysSpec.pre6 enc Try.prog Try.f3 Rows.arenaPlaysRow.domain false) (Rows.arenaPlaysSpec.post enc Try.prog Try.f3 false true false false) := by
  refine returnsInHanded_of_change (C := Try.checked) own started (by kernel_rfl) Try.func3
    (ChangeSpec.witness6 (enc := enc) (C := Try.checked) false ⟨#[], #[.int .i64 0, .slice none 0 0], []⟩ 8 (by kernel_rfl) (by kernel_rfl) (by kernel_rfl) (by kernel_rfl)) ?_
  intro W base args ds gs before hval0 hW hcnd _
  have hval : ∀ (j : Nat) t v, Try.f3.params[j]? = some t → args[j]? = some v → Value.okWide Try.prog W .any base t v := hval0
  have hW' := hW
  obtain ⟨p, q, hA0, hV, rfl, hfz, hnd⟩ := hW
  have hA : DataW.TrodAll enc Try.prog W 0 (fun _ => true) true Try.f3.params.toList args.toList ds p := hA0
  rw [Try.params3] at hA hval
  obtain ⟨v0, vs0, d0, ds0, p0, q0, hargs, rfl, rfl, h0, r0⟩ := trodAll_cons hA
  obtain ⟨v1, vs1, d1, ds1, p1, q1, rfl, rfl, rfl, h1, r1⟩ := trodAll_cons r0
  obtain ⟨rfl, rfl, rfl⟩ := trodAll_nil r1
  obtain rfl : args = #[v0, v1] := by cases args; simp_all
  obtain ⟨rfl, rfl⟩ := trodVars_none hV
  obtain ⟨a0, rfl, rfl, rfl, w0⟩ := open_int Try.underlying3 (hval 0 3 v0 rfl rfl) h0
  obtain ⟨a1, len1, cap1, rfl⟩ := okWide_slice Try.underlying22 (hval 1 22 v1 rfl rfl)
  have k1 := h1
  have lt1 : ∀ x ∈ p1, x.block < W.heap.size := by obtain ⟨m, hm⟩ := k1; exact DataW.trod_lt m _ _ _ hm
  have w1 : Elems W a1 len1 [.i .i64, .i .u32, .i .i64, .i .u32, .i .u32, .i .u8, .i .u16, .i .u16, .i .u16, .i .u16, .i .u32, .b, .s] := by
    obtain ⟨fuel, hf⟩ := h1
    exact open_elems (n := 20) Try.underlying22 (by kernel_rfl : flat Try.prog 20 40 = some [.i .i64, .i .u32, .i .i64, .i .u32, .i .u32, .i .u8, .i .u16, .i .u16, .i .u16, .i .u16, .i .u32, .b, .s]) (by kernel_rfl) (by decide) hf
  clear hA0 hval0
  refine (walk a0 w0 a1 len1 cap1 W w1).mono fun e W' ⟨he, hg⟩ => ?_
  subst he
  have bel := hg.below
  exact ⟨_, rfl, _, _, _, [], _, [], hW', trodAll_mk1 (shut_bool Try.underlying4 _), (trodAll_cons_mk (shut_int Try.underlying3 w0) (trodAll_cons_mk (Below.trod laidOut (by kernel_rfl) (of_decide_eq_true (by kernel_rfl)) k1 bel lt1) trodAll_mk0)), rfl, bel.frame _, fun h => by cases h⟩
theorem over : Rows.arenaPlaysRow.holds Try.pinned (OpenSpec.ofChange Rows.arenaPlaysSpec) :=
  OpenClaim.holds_of_wide 3 Try.f3 rfl rfl rfl rfl rfl rfl rfl ⟨rfl, rfl, rfl, rfl, rfl⟩ rfl rfl rfl rfl rfl (by kernel_rfl) Try.func3 (by kernel_rfl)
    (of_decide_eq_true (by kernel_rfl)) (by unfold Func.isWrapper; first | (rw [if_pos (by decide +kernel)]; kernel_rfl) | (rw [if_neg (by decide +kernel)]; exact ⟨rfl, rfl⟩))
    (fun os started H enc _ => lifted os started H enc)
/-- The statement, proved. -/
theorem proved : Rows.ArenaPlaysSaid :=
  over
end arenaPlays
end Go.Proofs.Ytilgklpponaoeaa
