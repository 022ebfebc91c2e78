/-
  The reference's Tagged and New. Condition: numbers in their types' ranges; whole pages.
-/





import Derived.Test.YtilgklpponaoeaaRCaps
set_option linter.unusedVariables false
namespace Go.Proofs.Ytilgklpponaoeaa
open Go.ChangeShapes Go.WideShapes Go.ChangeAt Go.RowKit
def rtg (f : Nat → Bool) (page : Int) (k : Nat) : List Nat := ((List.range k).filter fun i => f i && decide (((i / 16 : Nat) : Int) = page)).map fun i => 16 * i
theorem rtg_yes (f : Nat → Bool) (page : Int) (k : Nat) (h : f k = true) (h2 : ((k / 16 : Nat) : Int) = page) : rtg f page (k + 1) = rtg f page k ++ [16 * k] := by
  unfold rtg
  rw [List.range_succ, List.filter_append, List.map_append, List.filter_cons_of_pos (by rw [h, decide_eq_true h2]; rfl)]
  rfl
theorem rtg_no (f : Nat → Bool) (page : Int) (k : Nat) (h : ¬ (f k = true ∧ ((k / 16 : Nat) : Int) = page)) : rtg f page (k + 1) = rtg f page k := by
  unfold rtg
  rw [List.range_succ, List.filter_append, List.map_append]
  have : (f k && decide (((k / 16 : Nat) : Int) = page)) = false := by
    by_cases h1 : f k = true
    · rw [h1, decide_eq_false (fun h2 => h ⟨h1, h2⟩)]; rfl
    · rw [Bool.not_eq_true] at h1; rw [h1]; rfl
  rw [List.filter_cons_of_neg (by rw [this]; simp)]
  simp
theorem rtg_len (f : Nat → Bool) (page : Int) (k : Nat) : (rtg f page k).length ≤ k := by
  unfold rtg
  rw [List.length_map]
  exact Nat.le_trans (List.length_filter_le _ _) (by simp)
theorem rtg_is (f : Nat → Bool) (P : Nat) : ∀ k, rtg f P k = tagL f (16 * P) (min 16 (k - 16 * P))
  | 0 => by rw [Nat.zero_sub, Nat.min_zero]; rfl
  | k + 1 => by
    have ih := rtg_is f P k
    by_cases h : k / 16 = P
    · have e1 : min 16 (k - 16 * P) = k - 16 * P := by omega
      have e2 : min 16 (k + 1 - 16 * P) = k - 16 * P + 1 := by omega
      have e3 : 16 * P + (k - 16 * P) = k := by omega
      rw [e1] at ih
      rw [e2]
      by_cases hf : f k = true
      · rw [rtg_yes f P k hf (by omega), ih, tagL_yes f (16 * P) (k - 16 * P) (by rw [e3]; exact hf), e3, Nat.mul_comm k]
      · rw [rtg_no f P k (fun hx => hf hx.1), ih, tagL_no f (16 * P) (k - 16 * P) (by rw [e3]; simpa using hf)]
    · rw [rtg_no f P k (fun hx => h (by have := hx.2; omega)), ih]
      congr 1
      omega
theorem rtg_tgP (N : Nat) (hN : N % 256 = 0) (f : Nat → Bool) (page : Int) : rtg f page (N / 16) = tgP N f page := by
  unfold tgP
  by_cases hp : 0 ≤ page ∧ page < (N / 256 : Nat)
  · rw [if_pos hp]
    obtain ⟨P, rfl⟩ := Int.eq_ofNat_of_zero_le hp.1
    rw [rtg_is, Int.toNat_natCast]
    congr 1
    omega
  · rw [if_neg hp]
    unfold rtg
    rw [List.map_eq_nil_iff, List.filter_eq_nil_iff]
    intro i hi hx
    rw [List.mem_range] at hi
    rw [Bool.and_eq_true, decide_eq_true_eq] at hx
    omega
theorem built1u (w : World) (x : Int) : (Instr.buildSlice 63 1 #[(0, .int .u32 x)]).run Try.prog w = .ok (.slice (some ⟨w.heap.size, 0, none⟩) 1 1) (w.alloc (.cells #[.int .u32 x] 35)) := by kernel_rfl
set_option maxHeartbeats 1000000 in
set_option maxRecDepth 100000 in
theorem rtagged_any (w : World) (r bb tb cb ct : Nat) (bs : List Nat) (f : Nat → Bool) (h : Ra w r bb tb cb ct bs f) (hN : bs.length % 256 = 0) (page : Int) :
    Calls Try.prog 22 #[.pointer (some ⟨r, 0, none⟩), .int .i64 page] w fun e w' => ∃ v, e = .returned v ∧ w'.ownsRow w.heap.size 35 1 v (tgP bs.length f page).length (u32s (tgP bs.length f page)) ∧ Fr [] w w' := by
  obtain ⟨i0, hi, hz0, hz1, hz2⟩ := info_parts infoU32
  rw [← rtg_tgP bs.length hN f page]
  have hle := h.le
  have HC1 := Lib.hid fun W (hW : Fr [] w W) => (h.fr0 hW).c1
  have HTG := Lib.hid fun W (hW : Fr [] w W) => (h.fr0 hW).tag
  have hMb : bs.length / 16 ≤ 16384 := by omega
  obtain ⟨M, hM⟩ : ∃ M, bs.length / 16 = M := ⟨_, rfl⟩
  rw [hM] at HC1 HTG hMb ⊢
  clear h hN hle hM
  go_enter Try.func22, Try.ntmps22
  go_wp2_with fail
  go_loopw [5, 6] (fun o i wr => ∃ k : Nat, k ≤ M ∧ i = .int .i64 k ∧ wr.ownsRow w.heap.size 35 1 o (rtg f page k).length (u32s (rtg f page k)) ∧ Fr [] w wr) (fun _ i _ => M - (intOf i).toNat)
  case atStart => exact ⟨0, by omega, rfl, World.ownsRow_nil _ _ _ _, Fr.refl _ _⟩
  case round =>
    obtain ⟨k, hk, rfl, ho, hf⟩ := hrel
    have HO := Lib.hid ho
    have HF := Lib.hid hf
    have c1 := HC1.out _ hf
    have hsz := hf.size
    obtain ⟨n, hn⟩ : ∃ n, (rtg f page k).length = n := ⟨_, rfl⟩
    have hnb : n ≤ 16384 := by have := rtg_len f page k; omega
    rw [hn] at ho HO
    obtain ⟨va, vc, rfl, -⟩ := own_slice ho
    have HN := Lib.hid hn
    clear ho hf hn
    by_cases h1 : k < M
    · have ct := HTG.out _ HF.out k h1
      have hki : (k : Int) < (M : Int) := by omega
      have q0 : (k : Int) / 16 = ((k / 16 : Nat) : Int) := by omega
      by_cases hfk : f k = true
      · rw [hfk] at ct
        by_cases hp : ((k / 16 : Nat) : Int) = page
        · have hd : (((k / 16 : Nat) : Int) == page) = true := by simpa using hp
          have HY := Lib.hid (rtg_yes f page k hfk hp)
          obtain ⟨P, hP⟩ : ∃ P, k / 16 = P := ⟨_, rfl⟩
          rw [hP] at q0 hd
          clear hp hfk hP
          have HAL := Lib.hid (show At (wr.alloc (.cells #[.int .u32 ((16 * k : Nat) : Int)] 35)) wr.heap.size 35 #[.int .u32 ((16 * k : Nat) : Int)] from At.new _ _ _)
          have OY := Lib.hid (own_fr0 HO.out ((Fr.refl [] wr).alloc (.cells #[.int .u32 ((16 * k : Nat) : Int)] 35)))
          have hk16 : (16 : Int) * (k : Int) = ((16 * k : Nat) : Int) := by omega
          obtain ⟨K, hK⟩ : ∃ K, 16 * k = K := ⟨_, rfl⟩
          have hKb : K < 4294967296 := by omega
          rw [hK] at HAL OY hk16 HY
          clear hK
          go_wp2_with (first | (refine wpList_buildSlice rfl 63 1 _ _ _ _ (built1u _ _) rfl (by simp [go_sem]) ?_) | (at_builtin; refine wpList_append_own_at _ rfl (.tmp 29) (.tmp 33) 63 rfl w.heap.size 35 i0 (.int .u32 0) 1 4 Try.underlying63 hi hz0 hz1 hz2 rfl (by omega) (.slice va n vc) n _ rfl OY.out ⟨wr.heap.size, 0, none⟩ 1 1 [.int .u32 (K : Int)] rfl rfl (fun j u hu => by rw [Go.WideShapes.add_plain, Nat.zero_add, HAL.out.cell]; simpa using hu) (fun u hu => by simp at hu; subst hu; rfl) (by unfold maxLen; omega) (by omega) (by simp <;> omega) ?_; intro v9 w9 hown9 hg9 hnil9 hat9))
          have G9 := Lib.hid (Fr.app (HF.out.alloc (.cells #[.int .u32 (K : Int)] 35)) hg9 OY.out (Nat.le_refl _))
          have O9 := Lib.hid (show w9.ownsRow w.heap.size 35 1 v9 (rtg f page (k + 1)).length (u32s (rtg f page (k + 1))) from by rw [HY.out, u32s_snoc, List.length_append, HN.out]; exact hown9)
          clear hown9 hg9 hnil9 hat9 HAL OY
          go_roundw
          case rel => exact ⟨k + 1, by omega, by go_num, O9.out, G9.out⟩
          case measure => simp [intOf]; omega
        · have hd : (((k / 16 : Nat) : Int) == page) = false := by simpa using hp
          have HY := Lib.hid (rtg_no f page k (fun hx => hp hx.2))
          obtain ⟨P, hP⟩ : ∃ P, k / 16 = P := ⟨_, rfl⟩
          rw [hP] at q0 hd
          clear hp hfk hP
          go_wp2_with fail
          go_roundw
          case rel => exact ⟨k + 1, by omega, by go_num, by rw [HY.out, HN.out]; exact HO.out, HF.out⟩
          case measure => simp [intOf]; omega
      · have HY := Lib.hid (rtg_no f page k (fun hx => hfk hx.1))
        rw [Bool.not_eq_true] at hfk
        rw [hfk] at ct
        clear hfk
        go_wp2_with fail
        go_roundw
        case rel => exact ⟨k + 1, by omega, by go_num, by rw [HY.out, HN.out]; exact HO.out, HF.out⟩
        case measure => simp [intOf]; omega
    · obtain rfl : k = M := by omega
      go_wp2_with fail
      go_ret
      exact ⟨_, rfl, by rw [HN.out]; exact HO.out, HF.out⟩
/-- A new arena of the reference. -/
theorem rnewA_bad (w : World) (n e : Int) (h : (n < 16 ∧ e = 2) ∨ (1024 < n ∧ e = 3)) : Calls Try.prog 8 #[.int .i64 n] w fun r w' => r = .returned (.tuple #[.pointer none, .int .i64 e]) ∧ w = w' := by
  rcases h with ⟨h, rfl⟩ | ⟨h, rfl⟩
  · go_enter Try.func8, Try.ntmps8
    go_wp2_with fail
    go_ret2
    exact ⟨rfl, rfl⟩
  · have h2 : ¬ n < 16 := by omega
    go_enter Try.func8, Try.ntmps8
    go_wp2_with fail
    go_ret2
    exact ⟨rfl, rfl⟩
theorem infoBool : (Try.prog.info? 4).map (fun i => (i.zero, i.size, i.bytes)) = some (some (.bool false), 1, 1) := by kernel_rfl
theorem made_bls (n : Nat) : madeCells #[.bool false] n = (bls n fun _ => false).toArray := by
  rw [made_rep]
  unfold bls
  rw [List.map_const', List.length_range]
  simp
def newPost (w : World) (N : Nat) (e : Ending) (w' : World) : Prop := ∃ r bb tb cb ct, e = .returned (.tuple #[.pointer (some ⟨r, 0, none⟩), .int .i64 0]) ∧ Ra w' r bb tb cb ct (List.replicate N 0) (fun _ => false) ∧ w.heap.size ≤ r ∧ w.heap.size ≤ bb ∧ w.heap.size ≤ tb ∧ Fr [] w w'
set_option maxHeartbeats 1000000 in
set_option maxRecDepth 100000 in
theorem rnewA_any (w : World) (n : Nat) (h1 : 16 ≤ n) (h2 : n ≤ 1024) : Calls Try.prog 8 #[.int .i64 n] w (newPost w (256 * n)) := by
  obtain ⟨N, hN⟩ : ∃ N, 256 * n = N := ⟨_, rfl⟩
  have hNb : N ≤ 262144 := by omega
  have hN0 : N % 16 = 0 := by omega
  obtain ⟨M, hM⟩ : ∃ M, N / 16 = M := ⟨_, rfl⟩
  have hmk := fun W => run_make_row' (P := Try.prog) 31 5 (.int .u8 0) 1 Try.underlying31 infoU8 rfl .i64 .i64 N (by omega) (by omega) W
  have hmk2 := fun W => run_make_row' (P := Try.prog) 32 4 (.bool false) 1 Try.underlying32 infoBool rfl .i64 .i64 M (by omega) (by omega) W
  simp only [made_bys] at hmk
  simp only [made_bls] at hmk2
  have HZL := Lib.hid (show (List.replicate N 0).length = N by simp)
  obtain ⟨Z, hZ⟩ : ∃ Z, (bys (List.replicate N 0)).toArray = Z := ⟨_, rfl⟩
  obtain ⟨Y, hY⟩ : ∃ Y, (bls M fun _ => false).toArray = Y := ⟨_, rfl⟩
  have HZ := Lib.hid hZ
  have HY := Lib.hid hY
  have HMM := Lib.hid hM
  rw [hZ] at hmk
  rw [hY] at hmk2
  have g1 : (n : Int) * 256 = (N : Int) := by omega
  have g2 : IntKind.i64.wrap (N : Int) = (N : Int) := i64w _ (by omega)
  have g3 : (N : Int).tdiv 16 = (M : Int) := by rw [Int.tdiv_eq_ediv_of_nonneg (by omega)]; omega
  have g4 : (N : Int) / 16 = (M : Int) := by omega
  have g5 : IntKind.i64.wrap (M : Int) = (M : Int) := i64w _ (by omega)
  have k1 : ¬ (n : Int) < 16 := by omega
  have k2 : ¬ (n : Int) > 1024 := by omega
  have hMb : M ≤ 16384 := by omega
  rw [hN]
  clear hZ hY hM hN
  go_enter Try.func8, Try.ntmps8
  go_upto_region 5 with (fail)
  refine wp_region_L (fun W => Fr [] w W) [] (by kernel_rfl) (Fr.refl _ _).drew (fun hHeld => ?_)
  refine wpAnyL_take (i := 0) (v := ?_) rfl (by kernel_rfl) (fun _ _ _ h => h) (Or.inl ⟨by rfl, ?_⟩) (by assumption) ?_; rotate_left; (focus (intro w hSw; skip; go_simp; (try with_reducible rfl))); (try (refine wpAnyL_norm (by simp only [Act.put, List.setIfInBounds_toArray, List.set_cons_zero, List.set_cons_succ]; rfl) ?_))
  refine wpAnyL_take (i := 1) (v := ?_) rfl (by kernel_rfl) (fun _ _ _ h => h) (Or.inl ⟨by rfl, ?_⟩) (by assumption) ?_; rotate_left; (focus (intro w hSw; skip; go_simp; (try with_reducible rfl))); (try (refine wpAnyL_norm (by simp only [Act.put, List.setIfInBounds_toArray, List.set_cons_zero, List.set_cons_succ]; rfl) ?_))
  refine wpAnyL_take (i := 3) (v := ?_) rfl (by kernel_rfl) (fun _ _ _ h => h) (Or.inl ⟨by rfl, ?_⟩) (by assumption) ?_; rotate_left; (focus (intro w hSw; skip; go_simp; (try with_reducible rfl))); (try (refine wpAnyL_norm (by simp only [Act.put, List.setIfInBounds_toArray, List.set_cons_zero, List.set_cons_succ]; rfl) ?_))
  refine wpAnyL_take (i := 4) (v := ?_) rfl (by kernel_rfl) (fun _ _ _ h => h) (Or.inl ⟨by rfl, ?_⟩) (by assumption) ?_; rotate_left; (focus (intro w hSw; skip; go_simp; (try with_reducible rfl))); (try (refine wpAnyL_norm (by simp only [Act.put, List.setIfInBounds_toArray, List.set_cons_zero, List.set_cons_succ]; rfl) ?_))
  refine wpAnyL_take (i := 5) (v := ?_) rfl (by kernel_rfl) (fun _ _ _ h => h) (Or.inl ⟨by rfl, ?_⟩) (by assumption) ?_; rotate_left; (focus (intro w hSw; skip; go_simp; (try with_reducible rfl))); (try (refine wpAnyL_norm (by simp only [Act.put, List.setIfInBounds_toArray, List.set_cons_zero, List.set_cons_succ]; rfl) ?_))
  refine wpAnyL_ready (rs := [2, 6]) (by kernel_rfl) (by simp) ?_
  refine AllReadyL.cons rfl (fun K hK => ?_) (AllReadyL.cons rfl (fun K hK => ?_) AllReadyL.nil)
  · go_simp
    have hA0 : At (w.alloc (.cells Z 5)).drew w.heap.size 5 Z := At.new w 5 Z
    refine hK.out _ _ (fun _ => (show Fr [] w (w.alloc (.cells Z 5)).drew from ((Fr.refl _ _).alloc _).drew)) (fun hHeld' => ?_); have hHeld := hHeld' (by decide); clear hHeld' hK K; (try (refine wpAnyL_norm (by simp only [Act.put, List.setIfInBounds_toArray, List.set_cons_zero, List.set_cons_succ]; rfl) ?_))
    obtain ⟨w3, hw3⟩ : ∃ W, (w.alloc (.cells Z 5)).drew = W := ⟨_, rfl⟩
    rw [hw3] at hHeld hA0 ⊢
    refine wpAnyL_ready (rs := [6]) (by kernel_rfl) (by simp) ?_; refine AllReadyL.cons rfl (fun K hK => ?_) AllReadyL.nil
    go_simp
    have hB2 := At.new w3 4 Y
    have hB1 := hA0.old (.cells Y 4)
    have hb2 := hHeld.size
    have hb1 := Nat.le_refl w.heap.size
    refine hK.out _ _ (fun _ => hHeld.alloc (.cells Y 4)) (fun hHeld' => ?_); have hHeld := hHeld' (by decide); clear hHeld' hK K; (try (refine wpAnyL_norm (by simp only [Act.put, List.setIfInBounds_toArray, List.set_cons_zero, List.set_cons_succ]; rfl) ?_))
    obtain ⟨wn, hwn⟩ : ∃ W, w3.alloc (.cells Y 4) = W := ⟨_, rfl⟩
    obtain ⟨b2, hb2'⟩ : ∃ b, w3.heap.size = b := ⟨_, rfl⟩
    obtain ⟨b1, hb1'⟩ : ∃ b, w.heap.size = b := ⟨_, rfl⟩
    rw [hwn] at hHeld hB1 hB2 ⊢
    rw [hb2'] at hB2 hb2 ⊢
    have hb1 : w.heap.size ≤ b1 := by omega
    rw [hb1'] at hB1
    rw [hb1']
    refine wpAnyL_take (i := 7) (v := ?_) rfl (by kernel_rfl) (fun _ _ _ h => h) (Or.inl ⟨by rfl, ?_⟩) (by assumption) ?_; rotate_left; (focus (intro w hSw; skip; go_simp; (try with_reducible rfl))); (try (refine wpAnyL_norm (by simp only [Act.put, List.setIfInBounds_toArray, List.set_cons_zero, List.set_cons_succ]; rfl) ?_))
    refine wpAnyL_ready (rs := [8]) (by kernel_rfl) (by simp) ?_; refine AllReadyL.cons rfl (fun K hK => ?_) AllReadyL.nil
    go_simp
    have hfa : Fr [] wn (wn.alloc (.cells #[.slice (some ⟨b1, 0, none⟩) N N, .slice (some ⟨b2, 0, none⟩) M M] 34)) := (Fr.refl _ _).alloc _
    have hAX := At.new wn 34 #[.slice (some ⟨b1, 0, none⟩) N N, .slice (some ⟨b2, 0, none⟩) M M]
    have hwsz := hHeld.size
    refine hK.out _ _ (fun _ => hHeld.trans0 hfa) (fun hHeld' => ?_); have hHeld := hHeld' (by decide); clear hHeld' hK K; (try (refine wpAnyL_norm (by simp only [Act.put, List.setIfInBounds_toArray, List.set_cons_zero, List.set_cons_succ]; rfl) ?_))
    refine wpAnyL_take (i := 9) (v := ?_) rfl (by kernel_rfl) (fun _ _ _ h => h) (Or.inl ⟨by rfl, ?_⟩) (by assumption) ?_; rotate_left; (focus (intro w hSw; skip; go_simp; (try with_reducible rfl))); (try (refine wpAnyL_norm (by simp only [Act.put, List.setIfInBounds_toArray, List.set_cons_zero, List.set_cons_succ]; rfl) ?_))
    refine wpAnyL_take (i := 10) (v := ?_) rfl (by kernel_rfl) (fun _ _ _ h => h) (Or.inl ⟨by rfl, ?_⟩) (by assumption) ?_; rotate_left; (focus (intro w hSw; skip; go_simp; (try with_reducible rfl))); (try (refine wpAnyL_norm (by simp only [Act.put, List.setIfInBounds_toArray, List.set_cons_zero, List.set_cons_succ]; rfl) ?_))
    refine wpAnyL_done (by kernel_rfl) ?_ _
    go_wp2_with fail
    go_ret2
    exact ⟨_, b1, b2, N, M, rfl, ⟨by rw [HZL.out]; omega, by rw [HZL.out]; omega, Byt.rep N, by rw [HZL.out]; exact Nat.le_refl _, by omega, by rw [HZL.out]; omega, by omega, by rw [HZL.out, HMM.out]; exact hAX, ⟨Z, hB1.fr hfa (by simp), by rw [HZL.out, ← HZ.out]; simp [bys_len], by rw [HZL.out, ← HZ.out, List.take_of_length_le (by simp [bys_len])]⟩, ⟨Y, hB2.fr hfa (by simp), by rw [HZL.out, HMM.out, ← HY.out]; simp [bls_len], by rw [HZL.out, HMM.out, ← HY.out, List.take_of_length_le (by simp [bls_len])]⟩⟩, hwsz, hb1, hb2, hHeld⟩
  · go_simp
    have hA0 : At (w.alloc (.cells Y 4)).drew w.heap.size 4 Y := At.new w 4 Y
    refine hK.out _ _ (fun _ => (show Fr [] w (w.alloc (.cells Y 4)).drew from ((Fr.refl _ _).alloc _).drew)) (fun hHeld' => ?_); have hHeld := hHeld' (by decide); clear hHeld' hK K; (try (refine wpAnyL_norm (by simp only [Act.put, List.setIfInBounds_toArray, List.set_cons_zero, List.set_cons_succ]; rfl) ?_))
    obtain ⟨w3, hw3⟩ : ∃ W, (w.alloc (.cells Y 4)).drew = W := ⟨_, rfl⟩
    rw [hw3] at hHeld hA0 ⊢
    refine wpAnyL_ready (rs := [2]) (by kernel_rfl) (by simp) ?_; refine AllReadyL.cons rfl (fun K hK => ?_) AllReadyL.nil
    go_simp
    have hB1 := At.new w3 5 Z
    have hB2 := hA0.old (.cells Z 5)
    have hb1 := hHeld.size
    refine hK.out _ _ (fun _ => hHeld.alloc (.cells Z 5)) (fun hHeld' => ?_); have hHeld := hHeld' (by decide); clear hHeld' hK K; (try (refine wpAnyL_norm (by simp only [Act.put, List.setIfInBounds_toArray, List.set_cons_zero, List.set_cons_succ]; rfl) ?_))
    obtain ⟨wn, hwn⟩ : ∃ W, w3.alloc (.cells Z 5) = W := ⟨_, rfl⟩
    obtain ⟨b1, hb1'⟩ : ∃ b, w3.heap.size = b := ⟨_, rfl⟩
    obtain ⟨b2, hb2'⟩ : ∃ b, w.heap.size = b := ⟨_, rfl⟩
    rw [hwn] at hHeld hB1 hB2 ⊢
    rw [hb1'] at hB1 hb1 ⊢
    have hb2 : w.heap.size ≤ b2 := by omega
    rw [hb2'] at hB2
    rw [hb2']
    refine wpAnyL_take (i := 7) (v := ?_) rfl (by kernel_rfl) (fun _ _ _ h => h) (Or.inl ⟨by rfl, ?_⟩) (by assumption) ?_; rotate_left; (focus (intro w hSw; skip; go_simp; (try with_reducible rfl))); (try (refine wpAnyL_norm (by simp only [Act.put, List.setIfInBounds_toArray, List.set_cons_zero, List.set_cons_succ]; rfl) ?_))
    refine wpAnyL_ready (rs := [8]) (by kernel_rfl) (by simp) ?_; refine AllReadyL.cons rfl (fun K hK => ?_) AllReadyL.nil
    go_simp
    have hfa : Fr [] wn (wn.alloc (.cells #[.slice (some ⟨b1, 0, none⟩) N N, .slice (some ⟨b2, 0, none⟩) M M] 34)) := (Fr.refl _ _).alloc _
    have hAX := At.new wn 34 #[.slice (some ⟨b1, 0, none⟩) N N, .slice (some ⟨b2, 0, none⟩) M M]
    have hwsz := hHeld.size
    refine hK.out _ _ (fun _ => hHeld.trans0 hfa) (fun hHeld' => ?_); have hHeld := hHeld' (by decide); clear hHeld' hK K; (try (refine wpAnyL_norm (by simp only [Act.put, List.setIfInBounds_toArray, List.set_cons_zero, List.set_cons_succ]; rfl) ?_))
    refine wpAnyL_take (i := 9) (v := ?_) rfl (by kernel_rfl) (fun _ _ _ h => h) (Or.inl ⟨by rfl, ?_⟩) (by assumption) ?_; rotate_left; (focus (intro w hSw; skip; go_simp; (try with_reducible rfl))); (try (refine wpAnyL_norm (by simp only [Act.put, List.setIfInBounds_toArray, List.set_cons_zero, List.set_cons_succ]; rfl) ?_))
    refine wpAnyL_take (i := 10) (v := ?_) rfl (by kernel_rfl) (fun _ _ _ h => h) (Or.inl ⟨by rfl, ?_⟩) (by assumption) ?_; rotate_left; (focus (intro w hSw; skip; go_simp; (try with_reducible rfl))); (try (refine wpAnyL_norm (by simp only [Act.put, List.setIfInBounds_toArray, List.set_cons_zero, List.set_cons_succ]; rfl) ?_))
    refine wpAnyL_done (by kernel_rfl) ?_ _
    go_wp2_with fail
    go_ret2
    exact ⟨_, b1, b2, N, M, rfl, ⟨by rw [HZL.out]; omega, by rw [HZL.out]; omega, Byt.rep N, by rw [HZL.out]; exact Nat.le_refl _, by omega, by rw [HZL.out]; omega, by omega, by rw [HZL.out, HMM.out]; exact hAX, ⟨Z, hB1.fr hfa (by simp), by rw [HZL.out, ← HZ.out]; simp [bys_len], by rw [HZL.out, ← HZ.out, List.take_of_length_le (by simp [bys_len])]⟩, ⟨Y, hB2.fr hfa (by simp), by rw [HZL.out, HMM.out, ← HY.out]; simp [bls_len], by rw [HZL.out, HMM.out, ← HY.out, List.take_of_length_le (by simp [bls_len])]⟩⟩, hwsz, hb1, hb2, hHeld⟩
end Go.Proofs.Ytilgklpponaoeaa
