/-
  The reference's Write. Condition: numbers in their types' ranges.
-/





import Derived.Test.YtilgklpponaoeaaRArena
set_option linter.unusedVariables false
namespace Go.Proofs.Ytilgklpponaoeaa
open Go.ChangeShapes Go.WideShapes Go.ChangeAt Go.RowKit
theorem putL_step (bs : List Nat) (a : Nat) (l : List Nat) (k n : Nat) (hk : l[k]? = some n) (h : a + l.length ≤ bs.length) : (putL bs a (l.take k)).set (a + k) n = putL bs a (l.take (k + 1)) := by
  have hkl := (List.getElem?_eq_some_iff.1 hk).1
  have l1 : (l.take k).length = k := by rw [List.length_take]; omega
  have l2 : (l.take (k + 1)).length = k + 1 := by rw [List.length_take]; omega
  refine List.ext_getElem? fun i => ?_
  rw [List.getElem?_set, putL_get bs a _ (by rw [l1]; omega), putL_get bs a _ (by rw [l2]; omega), putL_len bs a _ (by rw [l1]; omega), l1, l2]
  by_cases e : a + k = i
  · subst e
    rw [if_pos rfl, if_pos (by omega), if_neg (by omega), if_pos (by omega), show a + k - a = k by omega, List.getElem?_take, if_pos (by omega), hk]
  · rw [if_neg e]
    by_cases h1 : i < a
    · rw [if_pos h1, if_pos h1]
    · rw [if_neg h1, if_neg h1]
      by_cases h2 : i < a + k
      · rw [if_pos h2, if_pos (by omega), List.getElem?_take, List.getElem?_take, if_pos (by omega), if_pos (by omega)]
      · rw [if_neg h2, if_neg (by omega)]
/-- The tags behind the first k bytes. -/
def wrK (f : Nat → Bool) (a k : Nat) : Nat → Bool := if 0 < k then putF f a k else f
theorem wrK_step (f : Nat → Bool) (a k : Nat) : upd (wrK f a k) ((a + k) / 16) false = wrK f a (k + 1) := by
  funext i
  unfold wrK upd
  rw [if_pos (show 0 < k + 1 by omega), putF_get]
  by_cases e : i = (a + k) / 16
  · rw [if_pos e, decide_eq_true (show a / 16 ≤ i by omega), decide_eq_true (show i ≤ (a + (k + 1) - 1) / 16 by omega)]
    simp
  · rw [if_neg e]
    by_cases h0 : 0 < k
    · rw [if_pos h0, putF_get]
      congr 2
      by_cases h1 : a / 16 ≤ i
      · rw [decide_eq_true h1, Bool.true_and, Bool.true_and]
        by_cases h2 : i ≤ (a + k - 1) / 16
        · rw [decide_eq_true h2, decide_eq_true (by omega)]
        · rw [decide_eq_false h2, decide_eq_false (by omega)]
      · rw [decide_eq_false h1, Bool.false_and, Bool.false_and]
    · obtain rfl : k = 0 := by omega
      rw [if_neg h0]
      have : (decide (a / 16 ≤ i) && decide (i ≤ (a + (0 + 1) - 1) / 16)) = false := by
        by_cases h1 : a / 16 ≤ i
        · rw [decide_eq_false (show ¬ i ≤ (a + (0 + 1) - 1) / 16 by omega), Bool.and_false]
        · rw [decide_eq_false h1, Bool.false_and]
      rw [this]; simp
theorem i64w (n : Nat) (h : n < 9223372036854775808) : IntKind.i64.wrap (n : Int) = n := by
  simp [IntKind.wrap, IntKind.signed, IntKind.bits]; omega
set_option maxHeartbeats 2000000 in
set_option maxRecDepth 100000 in
theorem rwrite_any (w : World) (r bb tb cb ct : Nat) (bs : List Nat) (f : Nat → Bool) (h : Ra w r bb tb cb ct bs f) (a : Nat) (ha : a < 4294967296) (l : List Nat) (hb : Byt l) (hl : l.length ≤ 1000000) :
    Calls Try.prog 43 #[.pointer (some ⟨r, 0, none⟩), .int .u32 a, strV l] w fun e w' => e = .returned (.bool (decide (a + l.length ≤ bs.length))) ∧ Ra w' r bb tb cb ct (wrL bs a l) (wrF bs f a l) ∧ Fr [bb, tb] w w' := by
  have CT := Lib.hid (rthere_any w r bb tb cb ct bs f h a ha (l.length : Nat) (by omega) (by omega))
  rw [thB_nat] at CT
  have hsz := BS_size l
  have HIX := Lib.hid (fun i b (hi : l[i]? = some b) (h : i < (BS l).size) => BS_at l hb i b hi h)
  have HB := Lib.hid hb
  have H := Lib.hid h
  unfold strV
  obtain ⟨S, hS⟩ : ∃ S, BS l = S := ⟨_, rfl⟩
  rw [hS] at hsz HIX ⊢
  obtain ⟨n, hn⟩ : ∃ n, l.length = n := ⟨_, rfl⟩
  rw [hn] at CT hl hsz ⊢
  have HN := Lib.hid hn
  have HSZ := Lib.hid hsz
  have hsb : S.size ≤ 1000000 := by omega
  have hsi : ((S.size : Nat) : Int) = (n : Int) := by omega
  by_cases hfit : a + n ≤ bs.length
  · rw [decide_eq_true hfit] at CT ⊢
    have hw1 : wrL bs a l = putL bs a l := if_pos (by omega)
    have hw2 : wrF bs f a l = wrK f a n := by
      unfold wrF wrK
      rw [hn]
      by_cases h0 : 0 < n
      · rw [if_pos ⟨hfit, h0⟩, if_pos h0]
      · rw [if_neg (fun x => h0 x.2), if_neg h0]
    rw [hw1, hw2]
    have hbl := h.le
    clear h hb hS hn hsz hw1 hw2
    go_enter Try.func43, Try.ntmps43
    go_wp2_with fail
    refine (CT.out).mono ?_
    rintro e w' ⟨rfl, rfl⟩
    go_wp2_with fail
    go_loopw [7] (fun i wr => ∃ k : Nat, k ≤ n ∧ i = .int .i64 k ∧ Ra wr r bb tb cb ct (putL bs a (l.take k)) (wrK f a k) ∧ Fr [bb, tb] w wr) (fun i _ => n - (intOf i).toNat)
    case atStart => exact ⟨0, by omega, rfl, by rw [List.take_zero, putL_nil]; exact H.out, Fr.refl _ _⟩
    case round =>
      obtain ⟨k, hk, rfl, hr, hf⟩ := hrel
      have HR := Lib.hid hr
      have HF := Lib.hid hf
      by_cases hkn : k < n
      · obtain ⟨b, hlb⟩ : ∃ b, l[k]? = some b := ⟨_, List.getElem?_eq_getElem (by rw [HN.out]; exact hkn)⟩
        have hix := HIX.out k b hlb
        have hb8 := HB.out.at_ _ _ hlb
        have HPS := Lib.hid (putL_step bs a l k b hlb (by rw [HN.out]; exact hfit))
        have HWK := Lib.hid (wrK_step f a k)
        have c0 := hr.c0
        have c1 := hr.c1
        have hpl : (putL bs a (l.take k)).length = bs.length := putL_len _ _ _ (by rw [List.length_take]; omega)
        rw [hpl] at c0 c1
        obtain ⟨ob, hob⟩ : ∃ b, (putL bs a (l.take k))[a + k]? = some b := ⟨_, List.getElem?_eq_getElem (by rw [hpl]; omega)⟩
        have cb0 := hr.byte (a + k) ob hob
        have zb0 := hr.bfroz (a + k)
        have R2 := Lib.hid (hr.setB (a + k) b hb8)
        rw [HPS.out] at R2
        have F2 := Lib.hid ((hf.set (a := ⟨bb, a + k, none⟩) (.inl (by simp)) (.int .u8 (b : Int))))
        have hki : (k : Int) < (S.size : Int) := by omega
        have g1 : IntKind.i64.wrap (a : Int) = a := i64w a (by omega)
        have g2 : IntKind.i64.wrap ((a : Int) + (k : Int)) = (a : Int) + k := by rw [← Int.natCast_add]; exact i64w _ (by omega)
        have g3 : ((a : Int) + (k : Int)).toNat = a + k := by omega
        have g4 : (0 : Int) ≤ (a : Int) + k := by omega
        have g5 : (a : Int) + k < (bs.length : Int) := by omega
        have hrl := hr.lt
        have C0 := Lib.hid (fun W (hW : Fr [] wr W) => (hW.cell (a := ⟨r, 0, none⟩) hrl.1 (by simp)).trans c0)
        clear hr hf hlb hob hpl
        go_wp2_with fail
        refine wp_region_L (fun W => Fr [] wr W) [12] (by kernel_rfl) ((Fr.refl _ _).drew) (fun hHeld => ?_)
        refine wpAnyL_take (i := 0) (v := ?_) rfl (by kernel_rfl) (fun _ _ _ h => h) (Or.inl ⟨by rfl, ?_⟩) (by assumption) ?_; rotate_left; (focus (intro w hSw; skip; go_simp; (try with_reducible rfl))); (try (refine wpAnyL_norm (by simp only [Act.put, List.setIfInBounds_toArray, List.set_cons_zero, List.set_cons_succ]; rfl) ?_))
        refine wpAnyL_take (i := 1) (v := ?_) rfl (by kernel_rfl) (fun _ _ _ h => h) (Or.inl ⟨by rfl, ?_⟩) (by assumption) ?_; rotate_left; (focus (intro w hSw; skip; go_simp; (try with_reducible rfl))); (try (refine wpAnyL_norm (by simp only [Act.put, List.setIfInBounds_toArray, List.set_cons_zero, List.set_cons_succ]; rfl) ?_))
        refine wpAnyL_take (i := 2) (v := ?_) rfl (by kernel_rfl) (fun _ _ _ h => h) (Or.inl ⟨by rfl, ?_⟩) (by assumption) ?_; rotate_left; (focus (intro w hSw; skip; go_simp; (try with_reducible rfl))); (try (refine wpAnyL_norm (by simp only [Act.put, List.setIfInBounds_toArray, List.set_cons_zero, List.set_cons_succ]; rfl) ?_))
        refine wpAnyL_take (i := 3) (v := ?_) rfl (by kernel_rfl) (fun _ _ _ h => h) (Or.inl ⟨by rfl, ?_⟩) (by assumption) ?_; rotate_left; (focus (intro w hSw; (have cc := C0.out _ hSw); go_simp; (try with_reducible rfl))); (try (refine wpAnyL_norm (by simp only [Act.put, List.setIfInBounds_toArray, List.set_cons_zero, List.set_cons_succ]; rfl) ?_))
        refine wpAnyL_take (i := 4) (v := ?_) rfl (by kernel_rfl) (fun _ _ _ h => h) (Or.inl ⟨by rfl, ?_⟩) (by assumption) ?_; rotate_left; (focus (intro w hSw; skip; go_simp; (try with_reducible rfl))); (try (refine wpAnyL_norm (by simp only [Act.put, List.setIfInBounds_toArray, List.set_cons_zero, List.set_cons_succ]; rfl) ?_))
        refine wpAnyL_take (i := 5) (v := ?_) rfl (by kernel_rfl) (fun _ _ _ h => h) (Or.inl ⟨by rfl, ?_⟩) (by assumption) ?_; rotate_left; (focus (intro w hSw; skip; go_simp; (try with_reducible rfl))); (try (refine wpAnyL_norm (by simp only [Act.put, List.setIfInBounds_toArray, List.set_cons_zero, List.set_cons_succ]; rfl) ?_))
        refine wpAnyL_take (i := 6) (v := ?_) rfl (by kernel_rfl) (fun _ _ _ h => h) (Or.inl ⟨by rfl, ?_⟩) (by assumption) ?_; rotate_left; (focus (intro w hSw; skip; go_simp; (try with_reducible rfl))); (try (refine wpAnyL_norm (by simp only [Act.put, List.setIfInBounds_toArray, List.set_cons_zero, List.set_cons_succ]; rfl) ?_))
        refine wpAnyL_take (i := 7) (v := ?_) rfl (by kernel_rfl) (fun _ _ _ h => h) (Or.inl ⟨by rfl, ?_⟩) (by assumption) ?_; rotate_left; (focus (intro w hSw; skip; go_simp; (try with_reducible rfl))); (try (refine wpAnyL_norm (by simp only [Act.put, List.setIfInBounds_toArray, List.set_cons_zero, List.set_cons_succ]; rfl) ?_))
        refine wpAnyL_take (i := 8) (v := ?_) rfl (by kernel_rfl) (fun _ _ _ h => h) (Or.inl ⟨by rfl, ?_⟩) (by assumption) ?_; rotate_left; (focus (intro w hSw; skip; go_simp; (try with_reducible rfl))); (try (refine wpAnyL_norm (by simp only [Act.put, List.setIfInBounds_toArray, List.set_cons_zero, List.set_cons_succ]; rfl) ?_))
        refine wpAnyL_take (i := 9) (v := ?_) rfl (by kernel_rfl) (fun _ _ _ h => h) (Or.inl ⟨by rfl, ?_⟩) (by assumption) ?_; rotate_left; (focus (intro w hSw; skip; go_simp; (try with_reducible rfl))); (try (refine wpAnyL_norm (by simp only [Act.put, List.setIfInBounds_toArray, List.set_cons_zero, List.set_cons_succ]; rfl) ?_))
        refine wpAnyL_take (i := 10) (v := ?_) rfl (by kernel_rfl) (fun _ _ _ h => h) (Or.inl ⟨by rfl, ?_⟩) (by assumption) ?_; rotate_left; (focus (intro w hSw; skip; go_simp; (try with_reducible rfl))); (try (refine wpAnyL_norm (by simp only [Act.put, List.setIfInBounds_toArray, List.set_cons_zero, List.set_cons_succ]; rfl) ?_))
        refine wpAnyL_take (i := 11) (v := ?_) rfl (by kernel_rfl) (fun _ _ _ h => h) (Or.inl ⟨by rfl, ?_⟩) (by assumption) ?_; rotate_left; (focus (intro w hSw; skip; go_simp; (try with_reducible rfl))); (try (refine wpAnyL_norm (by simp only [Act.put, List.setIfInBounds_toArray, List.set_cons_zero, List.set_cons_succ]; rfl) ?_))
        refine wpAnyL_ready (rs := [12]) (by kernel_rfl) (by simp) ?_; refine AllReadyL.cons rfl (fun K hK => ?_) AllReadyL.nil
        go_simp
        refine hK.out _ _ (fun h => (h (by decide)).elim) (fun _ => ?_); clear hK K; (try (refine wpAnyL_norm (by simp only [Act.put, List.setIfInBounds_toArray, List.set_cons_zero, List.set_cons_succ]; rfl) ?_))
        refine wpAnyL_done (by kernel_rfl) ?_ _
        clear hHeld c0 c1 cb0 zb0 C0
        have R5 := Lib.hid (R2.out.fr0 ((Fr.refl [] _).drew))
        have F5 := Lib.hid (F2.out.drew)
        obtain ⟨w5, hw5⟩ : ∃ W, (wr.setCell ⟨bb, a + k, none⟩ (.int .u8 (b : Int))).drew = W := ⟨_, rfl⟩
        rw [hw5] at R5 F5 ⊢
        have hpl : (putL bs a (l.take (k + 1))).length = bs.length := putL_len _ _ _ (by rw [List.length_take, HN.out]; omega)
        have c1 := R5.out.c1
        rw [hpl] at c1
        have ct5 := R5.out.tag ((a + k) / 16) (by rw [hpl]; have := H.out.m16; omega)
        have zt5 := R5.out.tfroz ((a + k) / 16)
        have g6 : ((a : Int) + k) / 16 < ((bs.length / 16 : Nat) : Int) := by have := H.out.m16; omega
        have g7 : (((a : Int) + k) / 16).toNat = (a + k) / 16 := by omega
        have R7 := Lib.hid (R5.out.setT ((a + k) / 16) false)
        rw [HWK.out] at R7
        have F7 := Lib.hid (F5.out.set (a := ⟨tb, (a + k) / 16, none⟩) (.inl (by simp)) (.bool false))
        obtain ⟨M, hM⟩ : ∃ M, bs.length / 16 = M := ⟨_, rfl⟩
        rw [hM] at c1 g6
        clear hw5 hpl R5 F5 R2 F2 HR HF HPS HWK hM
        go_wp2_with fail
        go_roundw
        case rel => exact ⟨k + 1, by omega, by go_num, R7.out, F7.out⟩
        case measure => simp [intOf]; omega
      · obtain rfl : k = n := by omega
        go_wp2_with fail
        go_ret
        have hr' := HR.out
        rw [← HN.out, List.take_length, HN.out] at hr'
        exact ⟨rfl, hr', HF.out⟩
  · rw [decide_eq_false hfit] at CT ⊢
    have hw1 : wrL bs a l = bs := if_neg (by omega)
    have hw2 : wrF bs f a l = f := if_neg (fun x => hfit (by omega))
    rw [hw1, hw2]
    clear h hb hS hn hsz hw1 hw2
    go_enter Try.func43, Try.ntmps43
    go_wp2_with fail
    refine (CT.out).mono ?_
    rintro e w' ⟨rfl, rfl⟩
    go_wp2_with fail
    go_ret
    exact ⟨rfl, H.out, Fr.refl _ _⟩
end Go.Proofs.Ytilgklpponaoeaa
