/-
  A step of both arenas: Write. Condition: numbers in their types' ranges.
-/





import Derived.Test.YtilgklpponaoeaaRStep
set_option linter.unusedVariables false
namespace Go.Proofs.Ytilgklpponaoeaa
open Go.ChangeShapes Go.WideShapes Go.ChangeAt Go.RowKit
theorem BS_take (l : List Nat) (n : Nat) : (BS l).extract 0 n = BS (l.take n) := by
  unfold BS
  apply ByteArray.ext
  simp [ByteArray.data_extract]
set_option maxHeartbeats 4000000 in
set_option maxRecDepth 100000 in
theorem step_2 (w : World) (ap p g bg cap r bb tb cb ct : Nat) (bs : List Nat) (f : Nat → Bool) (h : Pr w ap p g bg cap r bb tb cb ct bs f) (k : Int) (A : Nat) (hA : A < 4294967296) (wd : Int) (k1 : -9223372036854775808 ≤ wd) (k2 : wd ≤ 9223372036854775807) (v : Nat) (hv : v < 4294967296) (c : Cp) (hc : c.Ok) (l : List Nat) (hb : Byt l) (hl : l.length ≤ 9223372036854775807) (h0 : kindOf k = 2) :
    Calls Try.prog 13 #[.pointer (some ⟨ap, 0, none⟩), .pointer (some ⟨r, 0, none⟩), .agg (dc k A wd v c l)] w (stepPost w ap p g bg cap r bb tb cb ct bs.length) := by
  obtain ⟨b0, hb0⟩ : ∃ b, w.heap.size = b := ⟨_, rfl⟩
  obtain ⟨w1, hw1⟩ : ∃ W, w.alloc (.cells (dc k A wd v c l) 40) = W := ⟨_, rfl⟩
  have A0 := Lib.hid (show At w1 b0 40 (dc k A wd v c l) from by rw [← hw1, ← hb0]; exact At.new w _ _)
  have F0 := Lib.hid (show Fr [] w w1 from by rw [← hw1]; exact (by repeat (first | exact Fr.refl _ _ | assumption | refine Fr.trans0 ?_ (by assumption) | refine Fr.drewN ?_ _ | refine Fr.alloc ?_ _ | refine Fr.drew ?_)))
  have P0 := Lib.hid (h.fr0 F0.out)
  have HW1 := Lib.hid hw1
  have HB0 := Lib.hid hb0
  have hlt := Lib.hid (show (ap < b0 ∧ p < b0 ∧ g < b0 ∧ bg < b0) ∧ (r < b0 ∧ bb < b0 ∧ tb < b0) from by rw [← hb0]; exact ⟨h.aa.lt, h.rr.lt⟩)
  obtain ⟨m, m1, m2, m3, m4, m5⟩ := kind_facts k
  have q0 := A0.out.cell 0
  have q1 := A0.out.cell 1
  have q2 := A0.out.cell 2
  have q3 := A0.out.cell 3
  have q12 := A0.out.cell 12
  unfold dc at q0 q1 q2 q3 q12
  simp only [List.getElem?_toArray, List.getElem?_cons_zero, List.getElem?_cons_succ] at q0 q1 q2 q3 q12
  have Q1 := Lib.hid fun W (hW : Fr [g, bg, bb, tb] w1 W) => (hW.cell (a := ⟨b0, 1, none⟩) A0.out.lt (by have := hlt.out; simp; omega)).trans q1
  have Q2 := Lib.hid fun W (hW : Fr [g, bg, bb, tb] w1 W) => (hW.cell (a := ⟨b0, 2, none⟩) A0.out.lt (by have := hlt.out; simp; omega)).trans q2
  have Q3 := Lib.hid fun W (hW : Fr [g, bg, bb, tb] w1 W) => (hW.cell (a := ⟨b0, 3, none⟩) A0.out.lt (by have := hlt.out; simp; omega)).trans q3
  have Q4 := Lib.hid fun W (hW : Fr [g, bg, bb, tb] w1 W) => (show At W b0 40 (dc k A wd v c l) from A0.out.fr hW (by have := hlt.out; simp; omega))
  have D0 := Lib.hid h.d
  clear h hw1 hb0
  rw [h0] at m4 m5
  go_enter Try.func13, Try.ntmps13
  go_upto_region 1 with (fail)
  rw [HW1.out, HB0.out]
  go_upto_region 7 with (fail)
  unfold strV at q12
  have hsz := BS_size l
  obtain ⟨S, hS⟩ : ∃ S, BS l = S := ⟨_, rfl⟩
  rw [hS] at q12 hsz
  have HS := Lib.hid hS
  have hsz1 : S.size ≤ 9223372036854775807 := by omega
  clear hS
  have hLn := Lib.hid (show (wrL bs A (l.take 500)).length = bs.length from wrL_len _ _ _)
  have HSB : Hid (Byt (l.take 500) ∧ (l.take 500).length ≤ 1000000) := Lib.hid ⟨hb.take 500, by rw [List.length_take]; omega⟩
  obtain ⟨L, hL⟩ : ∃ L, l.take 500 = L := ⟨_, rfl⟩
  rw [hL] at hLn HSB
  by_cases hs : l.length < 500
  · have hx : S.extract 0 l.length = BS L := by rw [← HS.out, BS_take, ← hL, List.take_of_length_le (Nat.le_refl _), List.take_of_length_le (by omega)]
    have hi : (l.length : Int) < 500 := by omega
    have hi2 : ¬ (500 : Int) < (l.length : Int) := by omega
    go_upto_region 8 with (fail)
    try rw [hx]
    refine wp_region_L (fun W => Fr [g, bg, bb, tb] w1 W) [] (by kernel_rfl) (Fr.refl _ _).drew (fun hHeld => ?_)
    have P2 := Lib.hid (P0.out.fr0 (Fr.refl [] w1).drew)
    obtain ⟨w2, hw2⟩ : ∃ W, w1.drew = W := ⟨_, rfl⟩
    rw [hw2] at hHeld P2 ⊢
    clear hw2
    have CA := Lib.hid (awrite_any _ _ _ _ _ _ _ _ P2.out.aa A hA L HSB.out.2 HSB.out.1)
    unfold strV at CA
    obtain ⟨B, hB⟩ : ∃ B, decide (A + L.length ≤ bs.length) = B := ⟨_, rfl⟩
    rw [hB] at CA
    have HB := Lib.hid hB
    obtain ⟨bs', hbs⟩ : ∃ x, wrL bs A L = x := ⟨_, rfl⟩
    have HBS := Lib.hid hbs
    obtain ⟨f', hff⟩ : ∃ x, wrF bs f A L = x := ⟨_, rfl⟩
    have HFF := Lib.hid hff
    rw [hbs] at CA hLn
    rw [hff] at CA
    clear hB hbs hff hx hi hi2
    refine wpAnyL_take (i := 0) (v := ?_) rfl (by kernel_rfl) (fun _ _ _ h => h) (Or.inl ⟨by rfl, ?_⟩) (by assumption) ?_; rotate_left; (focus (intro w hSw; skip; go_simp; (try with_reducible rfl))); (try (refine wpAnyL_norm (by simp only [Act.put, List.setIfInBounds_toArray, List.set_cons_zero, List.set_cons_succ]; rfl) ?_))
    refine wpAnyL_take (i := 1) (v := ?_) rfl (by kernel_rfl) (fun _ _ _ h => h) (Or.inl ⟨by rfl, ?_⟩) (by assumption) ?_; rotate_left; (focus (intro w hSw; skip; go_simp; (try with_reducible rfl))); (try (refine wpAnyL_norm (by simp only [Act.put, List.setIfInBounds_toArray, List.set_cons_zero, List.set_cons_succ]; rfl) ?_))
    refine wpAnyL_take (i := 2) (v := ?_) rfl (by kernel_rfl) (fun _ _ _ h => h) (Or.inl ⟨by rfl, ?_⟩) (by assumption) ?_; rotate_left; (focus (intro w hSw; (have cc := Q1.out _ hSw); go_simp; (try with_reducible rfl))); (try (refine wpAnyL_norm (by simp only [Act.put, List.setIfInBounds_toArray, List.set_cons_zero, List.set_cons_succ]; rfl) ?_))
    refine wpAnyL_take (i := 3) (v := ?_) rfl (by kernel_rfl) (fun _ _ _ h => h) (Or.inl ⟨by rfl, ?_⟩) (by assumption) ?_; rotate_left; (focus (intro w hSw; skip; go_simp; (try with_reducible rfl))); (try (refine wpAnyL_norm (by simp only [Act.put, List.setIfInBounds_toArray, List.set_cons_zero, List.set_cons_succ]; rfl) ?_))
    refine wpAnyL_take (i := 5) (v := ?_) rfl (by kernel_rfl) (fun _ _ _ h => h) (Or.inl ⟨by rfl, ?_⟩) (by assumption) ?_; rotate_left; (focus (intro w hSw; skip; go_simp; (try with_reducible rfl))); (try (refine wpAnyL_norm (by simp only [Act.put, List.setIfInBounds_toArray, List.set_cons_zero, List.set_cons_succ]; rfl) ?_))
    refine wpAnyL_take (i := 6) (v := ?_) rfl (by kernel_rfl) (fun _ _ _ h => h) (Or.inl ⟨by rfl, ?_⟩) (by assumption) ?_; rotate_left; (focus (intro w hSw; skip; go_simp; (try with_reducible rfl))); (try (refine wpAnyL_norm (by simp only [Act.put, List.setIfInBounds_toArray, List.set_cons_zero, List.set_cons_succ]; rfl) ?_))
    refine wpAnyL_take (i := 7) (v := ?_) rfl (by kernel_rfl) (fun _ _ _ h => h) (Or.inl ⟨by rfl, ?_⟩) (by assumption) ?_; rotate_left; (focus (intro w hSw; (have cc := Q1.out _ hSw); go_simp; (try with_reducible rfl))); (try (refine wpAnyL_norm (by simp only [Act.put, List.setIfInBounds_toArray, List.set_cons_zero, List.set_cons_succ]; rfl) ?_))
    refine wpAnyL_take (i := 8) (v := ?_) rfl (by kernel_rfl) (fun _ _ _ h => h) (Or.inl ⟨by rfl, ?_⟩) (by assumption) ?_; rotate_left; (focus (intro w hSw; skip; go_simp; (try with_reducible rfl))); (try (refine wpAnyL_norm (by simp only [Act.put, List.setIfInBounds_toArray, List.set_cons_zero, List.set_cons_succ]; rfl) ?_))
    refine wpAnyL_ready (rs := [4]) (by kernel_rfl) (by simp) ?_; refine AllReadyL.cons rfl (fun K hK => ?_) AllReadyL.nil
    go_simp
    refine CA.out.mono ?_
    rintro e w3 ⟨rfl, h3, hf3⟩
    have A3 := Lib.hid h3
    have R3 := Lib.hid (P2.out.rr.fr hf3 (by have := D0.out; simp; omega) (by have := D0.out; simp; omega) (by have := D0.out; simp; omega))
    refine hK.out _ _ (fun _ => hHeld.trans hf3 (by simp)) (fun hHeld' => ?_); have hHeld := hHeld' (by decide); clear hHeld' hK K; (try (refine wpAnyL_norm (by simp only [Act.put, List.setIfInBounds_toArray, List.set_cons_zero, List.set_cons_succ]; rfl) ?_))
    clear h3 hf3 CA P2
    have CB := Lib.hid (rwrite_any _ _ _ _ _ _ _ _ R3.out A hA L HSB.out.1 HSB.out.2)
    unfold strV at CB
    rw [HB.out, HBS.out, HFF.out] at CB
    refine wpAnyL_ready (rs := [9]) (by kernel_rfl) (by simp) ?_; refine AllReadyL.cons rfl (fun K hK => ?_) AllReadyL.nil
    go_simp
    refine CB.out.mono ?_
    rintro e w4 ⟨rfl, h4, hf4⟩
    have P4 : Hid (Pr w4 ap p g bg cap r bb tb cb ct bs' f') := Lib.hid ⟨A3.out.fr hf4 (by have := D0.out; simp; omega) (by have := D0.out; simp; omega) (by have := D0.out; simp; omega) (by have := D0.out; simp; omega), h4, D0.out⟩
    refine hK.out _ _ (fun _ => hHeld.trans hf4 (by simp)) (fun hHeld' => ?_); have hHeld := hHeld' (by decide); clear hHeld' hK K; (try (refine wpAnyL_norm (by simp only [Act.put, List.setIfInBounds_toArray, List.set_cons_zero, List.set_cons_succ]; rfl) ?_))
    clear h4 hf4 CB A3 R3
    refine wpAnyL_take (i := 10) (v := ?_) rfl (by kernel_rfl) (fun _ _ _ h => h) (Or.inl ⟨by rfl, ?_⟩) (by assumption) ?_; rotate_left; (focus (intro w hSw; skip; go_simp; (try with_reducible rfl))); (try (refine wpAnyL_norm (by simp only [Act.put, List.setIfInBounds_toArray, List.set_cons_zero, List.set_cons_succ]; rfl) ?_))
    refine wpAnyL_take (i := 11) (v := ?_) rfl (by kernel_rfl) (fun _ _ _ h => h) (Or.inl ⟨by rfl, ?_⟩) (by assumption) ?_; rotate_left; (focus (intro w hSw; skip; go_simp; (try with_reducible rfl))); (try (refine wpAnyL_norm (by simp only [Act.put, List.setIfInBounds_toArray, List.set_cons_zero, List.set_cons_succ]; rfl) ?_))
    refine wpAnyL_done (by kernel_rfl) ?_ _
    have F4 := Lib.hid ((F0.out.more (T := [g, bg, bb, tb]) (by simp)).trans hHeld (fun k hk => .inl hk))
    clear hHeld
    go_wp2_with fail
    all_goals
      go_ret
      exact ⟨bs', f', rfl, P4.out, F4.out, hLn.out⟩
  · have hx : S.extract 0 (if (500 : Int) < (l.length : Int) then (500 : Int) else (l.length : Int)).toNat = BS L := by
      rw [← HS.out, BS_take, ← hL]
      by_cases h5 : (500 : Int) < (l.length : Int)
      · rw [if_pos h5]; rfl
      · rw [if_neg h5, show l.length = 500 by omega]; rfl
    have hi : ¬ (l.length : Int) < 500 := by omega
    have hi2 : (500 : Int) ≤ (l.length : Int) := by omega
    go_upto_region 8 with (fail)
    try rw [hx]
    refine wp_region_L (fun W => Fr [g, bg, bb, tb] w1 W) [] (by kernel_rfl) (Fr.refl _ _).drew (fun hHeld => ?_)
    have P2 := Lib.hid (P0.out.fr0 (Fr.refl [] w1).drew)
    obtain ⟨w2, hw2⟩ : ∃ W, w1.drew = W := ⟨_, rfl⟩
    rw [hw2] at hHeld P2 ⊢
    clear hw2
    have CA := Lib.hid (awrite_any _ _ _ _ _ _ _ _ P2.out.aa A hA L HSB.out.2 HSB.out.1)
    unfold strV at CA
    obtain ⟨B, hB⟩ : ∃ B, decide (A + L.length ≤ bs.length) = B := ⟨_, rfl⟩
    rw [hB] at CA
    have HB := Lib.hid hB
    obtain ⟨bs', hbs⟩ : ∃ x, wrL bs A L = x := ⟨_, rfl⟩
    have HBS := Lib.hid hbs
    obtain ⟨f', hff⟩ : ∃ x, wrF bs f A L = x := ⟨_, rfl⟩
    have HFF := Lib.hid hff
    rw [hbs] at CA hLn
    rw [hff] at CA
    clear hB hbs hff hx hi hi2
    refine wpAnyL_take (i := 0) (v := ?_) rfl (by kernel_rfl) (fun _ _ _ h => h) (Or.inl ⟨by rfl, ?_⟩) (by assumption) ?_; rotate_left; (focus (intro w hSw; skip; go_simp; (try with_reducible rfl))); (try (refine wpAnyL_norm (by simp only [Act.put, List.setIfInBounds_toArray, List.set_cons_zero, List.set_cons_succ]; rfl) ?_))
    refine wpAnyL_take (i := 1) (v := ?_) rfl (by kernel_rfl) (fun _ _ _ h => h) (Or.inl ⟨by rfl, ?_⟩) (by assumption) ?_; rotate_left; (focus (intro w hSw; skip; go_simp; (try with_reducible rfl))); (try (refine wpAnyL_norm (by simp only [Act.put, List.setIfInBounds_toArray, List.set_cons_zero, List.set_cons_succ]; rfl) ?_))
    refine wpAnyL_take (i := 2) (v := ?_) rfl (by kernel_rfl) (fun _ _ _ h => h) (Or.inl ⟨by rfl, ?_⟩) (by assumption) ?_; rotate_left; (focus (intro w hSw; (have cc := Q1.out _ hSw); go_simp; (try with_reducible rfl))); (try (refine wpAnyL_norm (by simp only [Act.put, List.setIfInBounds_toArray, List.set_cons_zero, List.set_cons_succ]; rfl) ?_))
    refine wpAnyL_take (i := 3) (v := ?_) rfl (by kernel_rfl) (fun _ _ _ h => h) (Or.inl ⟨by rfl, ?_⟩) (by assumption) ?_; rotate_left; (focus (intro w hSw; skip; go_simp; (try with_reducible rfl))); (try (refine wpAnyL_norm (by simp only [Act.put, List.setIfInBounds_toArray, List.set_cons_zero, List.set_cons_succ]; rfl) ?_))
    refine wpAnyL_take (i := 5) (v := ?_) rfl (by kernel_rfl) (fun _ _ _ h => h) (Or.inl ⟨by rfl, ?_⟩) (by assumption) ?_; rotate_left; (focus (intro w hSw; skip; go_simp; (try with_reducible rfl))); (try (refine wpAnyL_norm (by simp only [Act.put, List.setIfInBounds_toArray, List.set_cons_zero, List.set_cons_succ]; rfl) ?_))
    refine wpAnyL_take (i := 6) (v := ?_) rfl (by kernel_rfl) (fun _ _ _ h => h) (Or.inl ⟨by rfl, ?_⟩) (by assumption) ?_; rotate_left; (focus (intro w hSw; skip; go_simp; (try with_reducible rfl))); (try (refine wpAnyL_norm (by simp only [Act.put, List.setIfInBounds_toArray, List.set_cons_zero, List.set_cons_succ]; rfl) ?_))
    refine wpAnyL_take (i := 7) (v := ?_) rfl (by kernel_rfl) (fun _ _ _ h => h) (Or.inl ⟨by rfl, ?_⟩) (by assumption) ?_; rotate_left; (focus (intro w hSw; (have cc := Q1.out _ hSw); go_simp; (try with_reducible rfl))); (try (refine wpAnyL_norm (by simp only [Act.put, List.setIfInBounds_toArray, List.set_cons_zero, List.set_cons_succ]; rfl) ?_))
    refine wpAnyL_take (i := 8) (v := ?_) rfl (by kernel_rfl) (fun _ _ _ h => h) (Or.inl ⟨by rfl, ?_⟩) (by assumption) ?_; rotate_left; (focus (intro w hSw; skip; go_simp; (try with_reducible rfl))); (try (refine wpAnyL_norm (by simp only [Act.put, List.setIfInBounds_toArray, List.set_cons_zero, List.set_cons_succ]; rfl) ?_))
    refine wpAnyL_ready (rs := [4]) (by kernel_rfl) (by simp) ?_; refine AllReadyL.cons rfl (fun K hK => ?_) AllReadyL.nil
    go_simp
    refine CA.out.mono ?_
    rintro e w3 ⟨rfl, h3, hf3⟩
    have A3 := Lib.hid h3
    have R3 := Lib.hid (P2.out.rr.fr hf3 (by have := D0.out; simp; omega) (by have := D0.out; simp; omega) (by have := D0.out; simp; omega))
    refine hK.out _ _ (fun _ => hHeld.trans hf3 (by simp)) (fun hHeld' => ?_); have hHeld := hHeld' (by decide); clear hHeld' hK K; (try (refine wpAnyL_norm (by simp only [Act.put, List.setIfInBounds_toArray, List.set_cons_zero, List.set_cons_succ]; rfl) ?_))
    clear h3 hf3 CA P2
    have CB := Lib.hid (rwrite_any _ _ _ _ _ _ _ _ R3.out A hA L HSB.out.1 HSB.out.2)
    unfold strV at CB
    rw [HB.out, HBS.out, HFF.out] at CB
    refine wpAnyL_ready (rs := [9]) (by kernel_rfl) (by simp) ?_; refine AllReadyL.cons rfl (fun K hK => ?_) AllReadyL.nil
    go_simp
    refine CB.out.mono ?_
    rintro e w4 ⟨rfl, h4, hf4⟩
    have P4 : Hid (Pr w4 ap p g bg cap r bb tb cb ct bs' f') := Lib.hid ⟨A3.out.fr hf4 (by have := D0.out; simp; omega) (by have := D0.out; simp; omega) (by have := D0.out; simp; omega) (by have := D0.out; simp; omega), h4, D0.out⟩
    refine hK.out _ _ (fun _ => hHeld.trans hf4 (by simp)) (fun hHeld' => ?_); have hHeld := hHeld' (by decide); clear hHeld' hK K; (try (refine wpAnyL_norm (by simp only [Act.put, List.setIfInBounds_toArray, List.set_cons_zero, List.set_cons_succ]; rfl) ?_))
    clear h4 hf4 CB A3 R3
    refine wpAnyL_take (i := 10) (v := ?_) rfl (by kernel_rfl) (fun _ _ _ h => h) (Or.inl ⟨by rfl, ?_⟩) (by assumption) ?_; rotate_left; (focus (intro w hSw; skip; go_simp; (try with_reducible rfl))); (try (refine wpAnyL_norm (by simp only [Act.put, List.setIfInBounds_toArray, List.set_cons_zero, List.set_cons_succ]; rfl) ?_))
    refine wpAnyL_take (i := 11) (v := ?_) rfl (by kernel_rfl) (fun _ _ _ h => h) (Or.inl ⟨by rfl, ?_⟩) (by assumption) ?_; rotate_left; (focus (intro w hSw; skip; go_simp; (try with_reducible rfl))); (try (refine wpAnyL_norm (by simp only [Act.put, List.setIfInBounds_toArray, List.set_cons_zero, List.set_cons_succ]; rfl) ?_))
    refine wpAnyL_done (by kernel_rfl) ?_ _
    have F4 := Lib.hid ((F0.out.more (T := [g, bg, bb, tb]) (by simp)).trans hHeld (fun k hk => .inl hk))
    clear hHeld
    go_wp2_with fail
    all_goals
      go_ret
      exact ⟨bs', f', rfl, P4.out, F4.out, hLn.out⟩
end Go.Proofs.Ytilgklpponaoeaa
