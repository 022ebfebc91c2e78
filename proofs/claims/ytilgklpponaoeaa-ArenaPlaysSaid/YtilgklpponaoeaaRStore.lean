/-
  The reference's Store and Zero. Condition: numbers in their types' ranges.
-/





import Derived.Test.YtilgklpponaoeaaRLoad
set_option linter.unusedVariables false
namespace Go.Proofs.Ytilgklpponaoeaa
open Go.ChangeShapes Go.WideShapes Go.ChangeAt Go.RowKit
theorem le_get1 (k v j : Nat) (h : j < k) : (le k v)[j]? = some (v / 256 ^ j % 256) := by
  induction k generalizing v j with
  | zero => omega
  | succ k ih =>
    unfold le
    cases j with
    | zero => simp
    | succ j => rw [List.getElem?_cons_succ, ih _ _ (by omega), Nat.div_div_eq_div_mul, Nat.pow_succ, Nat.mul_comm (256 ^ j) 256]
def stJ (k v j : Nat) : List Nat := putL (List.replicate k 0) 0 ((le k v).take j)
theorem stJ_len (k v j : Nat) : (stJ k v j).length = k := by
  unfold stJ
  rw [putL_len _ _ _ (by rw [List.length_take, le_len, List.length_replicate]; omega), List.length_replicate]
theorem stJ_zero (k v : Nat) : stJ k v 0 = List.replicate k 0 := by unfold stJ; rw [List.take_zero, putL_nil]
theorem stJ_step (k v j : Nat) (h : j < k) : (stJ k v j).set j (v / 256 ^ j % 256) = stJ k v (j + 1) := by
  unfold stJ
  have := putL_step (List.replicate k 0) 0 (le k v) j _ (le_get1 k v j h) (by rw [le_len, List.length_replicate]; omega)
  rwa [Nat.zero_add] at this
theorem stJ_end (k v : Nat) : stJ k v k = le k v := by
  refine List.ext_getElem? fun i => ?_
  unfold stJ
  have ht : (le k v).take k = le k v := by rw [List.take_of_length_le (by rw [le_len]; exact Nat.le_refl _)]
  rw [ht, putL_get _ _ _ (by rw [le_len, List.length_replicate]; omega), if_neg (by omega), le_len]
  by_cases hi : i < 0 + k
  · rw [if_pos hi, Nat.sub_zero]
  · rw [if_neg hi, List.getElem?_eq_none (by rw [List.length_replicate]; omega), List.getElem?_eq_none (by rw [le_len]; omega)]
theorem bys_setA (bs : List Nat) (i n : Nat) : (bys bs).toArray.setIfInBounds i (.int .u8 (n : Int)) = (bys (bs.set i n)).toArray := by
  rw [List.setIfInBounds_toArray, bys_set]
set_option maxHeartbeats 1000000 in
set_option maxRecDepth 100000 in
theorem rstore_yes (w : World) (r bb tb cb ct : Nat) (bs : List Nat) (f : Nat → Bool) (h : Ra w r bb tb cb ct bs f) (a : Nat) (ha : a < 4294967296) (k v : Nat) (hk : k = 1 ∨ k = 2 ∨ k = 4) (hv : v < 4294967296) :
    Calls Try.prog 42 #[.pointer (some ⟨r, 0, none⟩), .int .u32 a, .int .i64 k, .int .u32 v] w fun e w' => e = .returned (.bool (decide (a + k ≤ bs.length))) ∧ Ra w' r bb tb cb ct (wrL bs a (le k v)) (wrF bs f a (le k v)) ∧ Fr [bb, tb] w w' := by
  have CW := Lib.hid (rwidth_any w k)
  rw [show widB (k : Int) = true by unfold widB; simp; omega] at CW
  have CWR := Lib.hid fun W (hW : Fr [] w W) => rwrite_any W r bb tb cb ct bs f (h.fr0 hW) a ha (le k v) (le_byt k v) (by rw [le_len]; omega)
  rw [le_len] at CWR
  have hmk := fun W => run_make_row' (P := Try.prog) 31 5 (.int .u8 0) 1 Try.underlying31 infoU8 rfl .i64 .i64 k (by omega) (by omega) W
  simp only [made_bys] at hmk
  have aZ := Lib.hid (At.new w 5 (bys (List.replicate k 0)).toArray)
  have fZ := Lib.hid (show Fr [] w (w.alloc (.cells (bys (List.replicate k 0)).toArray 5)) from (by repeat (first | exact Fr.refl _ _ | assumption | refine Fr.trans0 ?_ (by assumption) | refine Fr.drewN ?_ _ | refine Fr.alloc ?_ _ | refine Fr.drew ?_)))
  obtain ⟨BL, hBL⟩ : ∃ l, wrL bs a (le k v) = l := ⟨_, rfl⟩
  obtain ⟨FF, hFF⟩ : ∃ l, wrF bs f a (le k v) = l := ⟨_, rfl⟩
  rw [hBL, hFF] at CWR ⊢
  have HB := Lib.hid (le_byt k v)
  have HK := Lib.hid (le_len k v)
  obtain ⟨s, hs⟩ : ∃ s, strV (le k v) = s := ⟨_, rfl⟩
  rw [hs] at CWR
  have HS := Lib.hid hs
  have hkb : k ≤ 4 := by omega
  clear h hBL hFF hs
  obtain ⟨Zl, hZl⟩ : ∃ L, (bys (List.replicate k 0)).toArray = L := ⟨_, rfl⟩
  rw [hZl] at aZ fZ
  simp only [hZl] at hmk
  have HZ := Lib.hid hZl
  clear hZl hk
  go_enter Try.func42, Try.ntmps42
  go_wp2_with fail
  refine (CW.out).mono ?_
  rintro e w' ⟨rfl, rfl⟩
  go_wp2_with fail
  go_loopw [10] (fun i wr => ∃ j : Nat, j ≤ k ∧ i = .int .i64 j ∧ At wr w.heap.size 5 (bys (stJ k v j)).toArray ∧ Fr [] w wr) (fun i _ => k - (intOf i).toNat)
  case atStart => exact ⟨0, by omega, rfl, by rw [stJ_zero, HZ.out]; exact aZ.out, fZ.out⟩
  case round =>
    clear aZ fZ hmk
    obtain ⟨j, hj, rfl, hat, hf⟩ := hrel
    have HA := Lib.hid hat
    have HF := Lib.hid hf
    by_cases hjk : j < k
    · have hs := stJ_len k v j
      obtain ⟨ob, hob⟩ : ∃ b, (stJ k v j)[j]? = some b := ⟨_, List.getElem?_eq_getElem (by omega)⟩
      have cb0 := hat.cell j
      rw [List.getElem?_toArray, bys_get _ _ _ hob] at cb0
      have zb0 := hat.froz j
      clear hat hf hob
      rcases (show j = 0 ∨ j = 1 ∨ j = 2 ∨ j = 3 by omega) with rfl | rfl | rfl | rfl
      · have hd : (v : Int) % 256 = ((v / 256 ^ 0 % 256 : Nat) : Int) := by omega
        have HSJ := Lib.hid (stJ_step k v 0 hjk)
        obtain ⟨d, hdd⟩ : ∃ d : Nat, v / 256 ^ 0 % 256 = d := ⟨_, rfl⟩
        rw [hdd] at hd HSJ
        have HB2 := Lib.hid (show At (wr.setCell ⟨w.heap.size, 0, none⟩ (.int .u8 (d : Int))) w.heap.size 5 (bys (stJ k v (0 + 1))).toArray from by
          have := HA.out.set 0 (.int .u8 (d : Int))
          rw [bys_setA, HSJ.out] at this
          exact this)
        have HF2 := Lib.hid (HF.out.set (a := ⟨w.heap.size, 0, none⟩) (.inr (Nat.le_refl _)) (.int .u8 (d : Int)))
        clear hdd hs HA HF HSJ
        go_wp2_with fail
        go_roundw
        case rel => exact ⟨0 + 1, by omega, by first | rfl | go_num, HB2.out, HF2.out⟩
        case measure => simp [intOf] <;> omega
      · have hd : (v : Int) / 256 % 256 = ((v / 256 ^ 1 % 256 : Nat) : Int) := by omega
        have HSJ := Lib.hid (stJ_step k v 1 hjk)
        obtain ⟨d, hdd⟩ : ∃ d : Nat, v / 256 ^ 1 % 256 = d := ⟨_, rfl⟩
        rw [hdd] at hd HSJ
        have HB2 := Lib.hid (show At (wr.setCell ⟨w.heap.size, 1, none⟩ (.int .u8 (d : Int))) w.heap.size 5 (bys (stJ k v (1 + 1))).toArray from by
          have := HA.out.set 1 (.int .u8 (d : Int))
          rw [bys_setA, HSJ.out] at this
          exact this)
        have HF2 := Lib.hid (HF.out.set (a := ⟨w.heap.size, 1, none⟩) (.inr (Nat.le_refl _)) (.int .u8 (d : Int)))
        clear hdd hs HA HF HSJ
        go_wp2_with fail
        go_roundw
        case rel => exact ⟨1 + 1, by omega, by first | rfl | go_num, HB2.out, HF2.out⟩
        case measure => simp [intOf] <;> omega
      · have hd : (v : Int) / 65536 % 256 = ((v / 256 ^ 2 % 256 : Nat) : Int) := by omega
        have HSJ := Lib.hid (stJ_step k v 2 hjk)
        obtain ⟨d, hdd⟩ : ∃ d : Nat, v / 256 ^ 2 % 256 = d := ⟨_, rfl⟩
        rw [hdd] at hd HSJ
        have HB2 := Lib.hid (show At (wr.setCell ⟨w.heap.size, 2, none⟩ (.int .u8 (d : Int))) w.heap.size 5 (bys (stJ k v (2 + 1))).toArray from by
          have := HA.out.set 2 (.int .u8 (d : Int))
          rw [bys_setA, HSJ.out] at this
          exact this)
        have HF2 := Lib.hid (HF.out.set (a := ⟨w.heap.size, 2, none⟩) (.inr (Nat.le_refl _)) (.int .u8 (d : Int)))
        clear hdd hs HA HF HSJ
        go_wp2_with fail
        go_roundw
        case rel => exact ⟨2 + 1, by omega, by first | rfl | go_num, HB2.out, HF2.out⟩
        case measure => simp [intOf] <;> omega
      · have hd : (v : Int) / 16777216 % 256 = ((v / 256 ^ 3 % 256 : Nat) : Int) ∧ (v : Int) / 16777216 = ((v / 256 ^ 3 % 256 : Nat) : Int) := by omega
        have HSJ := Lib.hid (stJ_step k v 3 hjk)
        obtain ⟨d, hdd⟩ : ∃ d : Nat, v / 256 ^ 3 % 256 = d := ⟨_, rfl⟩
        rw [hdd] at hd HSJ
        have HB2 := Lib.hid (show At (wr.setCell ⟨w.heap.size, 3, none⟩ (.int .u8 (d : Int))) w.heap.size 5 (bys (stJ k v (3 + 1))).toArray from by
          have := HA.out.set 3 (.int .u8 (d : Int))
          rw [bys_setA, HSJ.out] at this
          exact this)
        have HF2 := Lib.hid (HF.out.set (a := ⟨w.heap.size, 3, none⟩) (.inr (Nat.le_refl _)) (.int .u8 (d : Int)))
        clear hdd hs HA HF HSJ
        go_wp2_with fail
        go_roundw
        case rel => exact ⟨3 + 1, by omega, by first | rfl | go_num, HB2.out, HF2.out⟩
        case measure => simp [intOf] <;> omega
    · obtain rfl : j = k := by omega
      rw [stJ_end] at hat
      have HIN := Lib.hid (show BIn wr (some ⟨w.heap.size, 0, none⟩) (le j v) from .inr ⟨_, 0, rfl, hat.lt, fun i x hx => by rw [Nat.zero_add, hat.cell]; simpa using hx⟩)
      have CR := Lib.hid (CWR.out wr hf)
      clear hat CWR HA
      go_wp2_with (refine wpList_str rfl ⟨5, Try.underlying31, Try.underlying5⟩ Try.underlying9 (.tmp 31) rfl _ j j rfl (le j v) HK.out HB.out HIN.out (fun h => by cases h) ?_; rw [HS.out])
      refine CR.out.mono ?_
      rintro e w3 ⟨rfl, h3, hf3⟩
      have H3 := Lib.hid h3
      have HF3 := Lib.hid hf3
      clear h3 hf3 hf
      go_wp2_with fail
      go_ret
      exact ⟨rfl, H3.out, (HF.out.more (by simp)).trans HF3.out (by simp)⟩
theorem rstore_b (w : World) (r bb tb cb ct : Nat) (bs : List Nat) (f : Nat → Bool) (h : Ra w r bb tb cb ct bs f) (a : Nat) (ha : a < 4294967296) (k : Int) (v : Nat) (hv : v < 4294967296) :
    Calls Try.prog 42 #[.pointer (some ⟨r, 0, none⟩), .int .u32 a, .int .i64 k, .int .u32 v] w fun e w' => e = .returned (.bool (okE bs.length a k)) ∧ Ra w' r bb tb cb ct (stL bs a k v) (stT bs f a k v) ∧ Fr [bb, tb] w w' := by
  unfold stL stT
  rcases wid_cases k with ⟨n, rfl, hn⟩ | hk
  · have hw : widB (n : Int) = true := by unfold widB; simp; omega
    rw [okE_yes _ _ _ hn, if_pos hw, if_pos hw, Int.toNat_natCast]
    exact rstore_yes w r bb tb cb ct bs f h a ha n v hn hv
  · have hw : ¬ widB k = true := by unfold widB; simp; omega
    rw [okE_no _ _ _ hk, if_neg hw, if_neg hw]
    have CW := Lib.hid (rwidth_any w k)
    rw [Bool.not_eq_true] at hw
    rw [hw] at CW
    have H := Lib.hid h
    clear h hw hk hv
    go_enter Try.func42, Try.ntmps42
    go_wp2_with fail
    refine (CW.out).mono ?_
    rintro e w' ⟨rfl, rfl⟩
    go_wp2_with fail
    go_ret
    exact ⟨rfl, H.out, Fr.refl _ _⟩
set_option maxHeartbeats 1000000 in
set_option maxRecDepth 100000 in
theorem rzero_any (w : World) (r bb tb cb ct : Nat) (bs : List Nat) (f : Nat → Bool) (h : Ra w r bb tb cb ct bs f) (a n : Nat) (ha : a < 4294967296) (hn : n < 4294967296) :
    Calls Try.prog 45 #[.pointer (some ⟨r, 0, none⟩), .agg #[.int .u32 a, .int .u32 n]] w fun e w' => e = .returned (.bool (decide (a + n ≤ bs.length))) ∧ Ra w' r bb tb cb ct (wrL bs a (List.replicate n 0)) (wrF bs f a (List.replicate n 0)) ∧ Fr [bb, tb] w w' := by
  have A0 := Lib.hid (At.new w 70 #[.int .u32 a, .int .u32 n])
  have F0 := Lib.hid (show Fr [] w (w.alloc (.cells #[.int .u32 a, .int .u32 n] 70)) from (by repeat (first | exact Fr.refl _ _ | assumption | refine Fr.trans0 ?_ (by assumption) | refine Fr.drewN ?_ _ | refine Fr.alloc ?_ _ | refine Fr.drew ?_)))
  have R0 := Lib.hid (h.fr0 F0.out)
  have h8 := h.lt
  obtain ⟨w1, hw1⟩ : ∃ W, w.alloc (.cells #[.int .u32 a, .int .u32 n] 70) = W := ⟨_, rfl⟩
  rw [hw1] at A0 F0 R0
  have HW1 := Lib.hid hw1
  obtain ⟨b0, hb0⟩ : ∃ b, w.heap.size = b := ⟨_, rfl⟩
  rw [hb0] at A0 h8
  have HB0 := Lib.hid hb0
  have hN := h.le
  have c0 := R0.out.c0
  have q0 := A0.out.cell 0
  have q1 := A0.out.cell 1
  simp only [List.getElem?_toArray, List.getElem?_cons_zero, List.getElem?_cons_succ] at q0 q1
  have g1 : IntKind.i64.wrap (n : Int) = n := i64w n (by omega)
  by_cases hfit : n ≤ bs.length
  · have k1 : decide ((n : Int) > (bs.length : Int)) = false := decide_eq_false (by omega)
    have k2 : ¬ (bs.length : Int) < (n : Int) := by omega
    have CWR := Lib.hid fun W (hW : Fr [] w1 W) => rwrite_any W r bb tb cb ct bs f (R0.out.fr0 hW) a ha (List.replicate n 0) (Byt.rep n) (by rw [List.length_replicate]; omega)
    rw [List.length_replicate] at CWR
    have hmk := fun W => run_make_row' (P := Try.prog) 31 5 (.int .u8 0) 1 Try.underlying31 infoU8 rfl .i64 .i64 n (by omega) (by omega) W
    simp only [made_bys] at hmk
    obtain ⟨BL, hBL⟩ : ∃ l, wrL bs a (List.replicate n 0) = l := ⟨_, rfl⟩
    obtain ⟨FF, hFF⟩ : ∃ l, wrF bs f a (List.replicate n 0) = l := ⟨_, rfl⟩
    obtain ⟨N, hNN⟩ : ∃ N, bs.length = N := ⟨_, rfl⟩
    rw [hBL, hFF, hNN] at CWR
    rw [hBL, hFF]
    rw [hNN] at c0 k1 k2 hN ⊢
    have HB := Lib.hid (Byt.rep n)
    have HK := Lib.hid (show (List.replicate n 0).length = n by simp)
    obtain ⟨Zl, hZl⟩ : ∃ L, List.replicate n 0 = L := ⟨_, rfl⟩
    rw [hZl] at HB HK CWR
    simp only [hZl] at hmk
    obtain ⟨s, hs⟩ : ∃ s, strV Zl = s := ⟨_, rfl⟩
    rw [hs] at CWR
    have HS := Lib.hid hs
    clear h hBL hFF hs hZl hNN hfit hw1 hb0
    go_enter Try.func45, Try.ntmps45
    go_upto_region 1 with (fail)
    rw [HW1.out, HB0.out]
    go_region
    go_upto_region 3 with (fail)
    obtain ⟨w2, hw2⟩ : ∃ W, w1.drew = W := ⟨_, rfl⟩
    have F2 := Lib.hid (show Fr [] w1 w2 from by rw [← hw2]; exact (Fr.refl _ _).drew)
    rw [hw2]
    have Q0 := Lib.hid fun W (hW : Fr [bb, tb] w2 W) => (((F2.out.more (T := [bb, tb]) (by simp)).trans hW (fun k hk => .inl hk)).cell (a := ⟨b0, 0, none⟩) A0.out.lt (by simp; omega)).trans q0
    have Q1 := Lib.hid fun W (hW : Fr [bb, tb] w2 W) => (((F2.out.more (T := [bb, tb]) (by simp)).trans hW (fun k hk => .inl hk)).cell (a := ⟨b0, 1, none⟩) A0.out.lt (by simp; omega)).trans q1
    clear q0 q1 c0 hw2
    refine wp_region_L (fun W => Fr [bb, tb] w2 W) [] (by kernel_rfl) (Fr.refl _ _).drew (fun hHeld => ?_)
    refine wpAnyL_take (i := 0) (v := ?_) rfl (by kernel_rfl) (fun _ _ _ h => h) (Or.inl ⟨by rfl, ?_⟩) (by assumption) ?_; rotate_left; (focus (intro w hSw; skip; go_simp; (try with_reducible rfl))); (try (refine wpAnyL_norm (by simp only [Act.put, List.setIfInBounds_toArray, List.set_cons_zero, List.set_cons_succ]; rfl) ?_))
    refine wpAnyL_take (i := 1) (v := ?_) rfl (by kernel_rfl) (fun _ _ _ h => h) (Or.inl ⟨by rfl, ?_⟩) (by assumption) ?_; rotate_left; (focus (intro w hSw; skip; go_simp; (try with_reducible rfl))); (try (refine wpAnyL_norm (by simp only [Act.put, List.setIfInBounds_toArray, List.set_cons_zero, List.set_cons_succ]; rfl) ?_))
    refine wpAnyL_take (i := 2) (v := ?_) rfl (by kernel_rfl) (fun _ _ _ h => h) (Or.inl ⟨by rfl, ?_⟩) (by assumption) ?_; rotate_left; (focus (intro w hSw; (have cc := Q0.out _ hSw); go_simp; (try with_reducible rfl))); (try (refine wpAnyL_norm (by simp only [Act.put, List.setIfInBounds_toArray, List.set_cons_zero, List.set_cons_succ]; rfl) ?_))
    refine wpAnyL_take (i := 3) (v := ?_) rfl (by kernel_rfl) (fun _ _ _ h => h) (Or.inl ⟨by rfl, ?_⟩) (by assumption) ?_; rotate_left; (focus (intro w hSw; skip; go_simp; (try with_reducible rfl))); (try (refine wpAnyL_norm (by simp only [Act.put, List.setIfInBounds_toArray, List.set_cons_zero, List.set_cons_succ]; rfl) ?_))
    refine wpAnyL_take (i := 4) (v := ?_) rfl (by kernel_rfl) (fun _ _ _ h => h) (Or.inl ⟨by rfl, ?_⟩) (by assumption) ?_; rotate_left; (focus (intro w hSw; (have cc := Q1.out _ hSw); go_simp; (try with_reducible rfl))); (try (refine wpAnyL_norm (by simp only [Act.put, List.setIfInBounds_toArray, List.set_cons_zero, List.set_cons_succ]; rfl) ?_))
    refine wpAnyL_take (i := 5) (v := ?_) rfl (by kernel_rfl) (fun _ _ _ h => h) (Or.inl ⟨by rfl, ?_⟩) (by assumption) ?_; rotate_left; (focus (intro w hSw; skip; go_simp; (try with_reducible rfl))); (try (refine wpAnyL_norm (by simp only [Act.put, List.setIfInBounds_toArray, List.set_cons_zero, List.set_cons_succ]; rfl) ?_))
    refine wpAnyL_ready (rs := [6]) (by kernel_rfl) (by simp) ?_; refine AllReadyL.cons rfl (fun K hK => ?_) AllReadyL.nil
    go_simp
    have A3 := Lib.hid (show At (w2.alloc (.cells (bys Zl).toArray 5)).drew w2.heap.size 5 (bys Zl).toArray from At.new w2 5 _)
    have F3 := Lib.hid (F2.out.trans0 (show Fr [] w2 (w2.alloc (.cells (bys Zl).toArray 5)).drew from ((Fr.refl _ _).alloc _).drew))
    refine hK.out _ _ (fun _ => (show Fr [bb, tb] w2 (w2.alloc (.cells (bys Zl).toArray 5)).drew from ((Fr.refl _ _).alloc _).drew)) (fun hHeld' => ?_); have hHeld := hHeld' (by decide); clear hHeld' hK K; (try (refine wpAnyL_norm (by simp only [Act.put, List.setIfInBounds_toArray, List.set_cons_zero, List.set_cons_succ]; rfl) ?_))
    obtain ⟨w3, hw3⟩ : ∃ W, (w2.alloc (.cells (bys Zl).toArray 5)).drew = W := ⟨_, rfl⟩
    rw [hw3] at hHeld A3 F3 ⊢
    have HIN := Lib.hid (show BIn w3 (some ⟨w2.heap.size, 0, none⟩) Zl from .inr ⟨_, 0, rfl, A3.out.lt, fun j x hx => by rw [Nat.zero_add, A3.out.cell]; simpa using hx⟩)
    refine wpAnyL_ready (rs := [7]) (by kernel_rfl) (by simp) ?_; refine AllReadyL.cons rfl (fun K hK => ?_) AllReadyL.nil
    refine wp_str ⟨5, Try.underlying31, Try.underlying5⟩ Try.underlying9 (.tmp 20) rfl _ n n rfl Zl HK.out HB.out HIN.out (fun h => by cases h) ?_
    rw [HS.out]
    refine hK.out _ _ (fun _ => hHeld) (fun hHeld' => ?_); have hHeld := hHeld' (by decide); clear hHeld' hK K; (try (refine wpAnyL_norm (by simp only [Act.put, List.setIfInBounds_toArray, List.set_cons_zero, List.set_cons_succ]; rfl) ?_))
    have CR := Lib.hid (CWR.out w3 F3.out)
    clear HIN A3 CWR hw3 Q0 Q1
    refine wpAnyL_ready (rs := [8]) (by kernel_rfl) (by simp) ?_; refine AllReadyL.cons rfl (fun K hK => ?_) AllReadyL.nil
    go_simp
    refine CR.out.mono ?_
    rintro e w4 ⟨rfl, h4, hf4⟩
    have H4 := Lib.hid h4
    have HF4 := Lib.hid hf4
    refine hK.out _ _ (fun _ => hHeld.trans hf4 (fun k hk => .inl hk)) (fun hHeld' => ?_); have hHeld := hHeld' (by decide); clear hHeld' hK K; (try (refine wpAnyL_norm (by simp only [Act.put, List.setIfInBounds_toArray, List.set_cons_zero, List.set_cons_succ]; rfl) ?_))
    clear h4 hf4 CR
    refine wpAnyL_take (i := 9) (v := ?_) rfl (by kernel_rfl) (fun _ _ _ h => h) (Or.inl ⟨by rfl, ?_⟩) (by assumption) ?_; rotate_left; (focus (intro w hSw; skip; go_simp; (try with_reducible rfl))); (try (refine wpAnyL_norm (by simp only [Act.put, List.setIfInBounds_toArray, List.set_cons_zero, List.set_cons_succ]; rfl) ?_))
    refine wpAnyL_done (by kernel_rfl) ?_ _
    go_wp2_with fail
    go_ret
    exact ⟨rfl, H4.out, ((F0.out.trans0 F3.out).more (by simp)).trans HF4.out (by simp)⟩
  · have k1 : decide ((n : Int) > (bs.length : Int)) = true := decide_eq_true (by omega)
    have k2 : ¬ (n : Int) ≤ (bs.length : Int) := by omega
    have k3 : (bs.length : Int) < (n : Int) := by omega
    have hw1' : wrL bs a (List.replicate n 0) = bs := if_neg (by rw [List.length_replicate]; omega)
    have hw2' : wrF bs f a (List.replicate n 0) = f := if_neg (fun x => hfit (by have := x.1; rw [List.length_replicate] at this; omega))
    rw [hw1', hw2', decide_eq_false (by omega)]
    obtain ⟨N, hNN⟩ : ∃ N, bs.length = N := ⟨_, rfl⟩
    rw [hNN] at c0 k1 k2 k3
    clear h hNN hfit hw1 hb0 hw1' hw2' hN
    go_enter Try.func45, Try.ntmps45
    go_upto_region 1 with (fail)
    rw [HW1.out, HB0.out]
    go_region
    go_wp2_with fail
    go_ret
    exact ⟨rfl, R0.out.fr0 (Fr.refl _ _).drew, (F0.out.drew).more (by simp)⟩
end Go.Proofs.Ytilgklpponaoeaa
