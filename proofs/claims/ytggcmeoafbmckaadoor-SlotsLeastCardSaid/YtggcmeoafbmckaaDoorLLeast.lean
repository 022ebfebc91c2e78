/-
  SlotsLeast: slots are taken from the least page on, from the least one on, in order. Condition: the table of math/bits is as the library lays it (the row lists it).
-/


import Derived.Test.YtggcmeoafbmckaaDoorWorks
import Derived.Test.YtggcmeoafbmckaaDoorDoor
import Derived.Deep.RegionHeld3
import Derived.Deep.CutBlock
import Derived.Deep.DeepCutAuto
set_option linter.unusedVariables false
namespace Go.Proofs.YtggcmeoafbmckaaDoor
open Go.ChangeShapes Go.WideShapes Go.ChangeAt Go.RowKit
namespace slotsLeast
/-- All pages of a set, all of whose slots are free. -/
def FT (n : Nat) (T : Nat → Bool) : Nat → Nat → Bool := fun p s => T p && decide (s < n)
theorem FT_add (n : Nat) (T : Nat → Bool) (p : Nat) : upp (FT n T) p (ful n) = FT n (upd T p true) := by
  funext q s
  unfold upp FT upd ful
  by_cases h : q = p <;> simp [h]
theorem FT_none (n : Nat) : FT n noT = noF := rfl
theorem cnt_ful (n : Nat) (h : n ≤ 16) : cnt (ful n) 16 = n := by
  have key : ∀ m, m ≤ n → cnt (ful n) m = m := fun m => by
    induction m with
    | zero => exact fun _ => rfl
    | succ m ih => intro hm; simp only [cnt]; rw [ih (by omega), if_pos (by unfold ful; simp; omega)]
  rw [show 16 = n + (16 - n) by omega, cnt_add, key n (Nat.le_refl _), cnt_zero _ _ fun s _ => by unfold ful; simp]
  rfl
theorem tot_FT (n : Nat) (h : n ≤ 16) (T : Nat → Bool) : ∀ m, tot (FT n T) m = cnt T m * n
  | 0 => by simp [tot, cnt]
  | m + 1 => by
    rw [show tot (FT n T) (m + 1) = tot (FT n T) m + cnt (FT n T m) 16 from rfl, show cnt T (m + 1) = cnt T m + if T m = true then 1 else 0 from rfl, tot_FT n h T m]
    by_cases e : T m = true
    · have : FT n T m = ful n := by funext s; unfold FT ful; rw [e, Bool.true_and]
      rw [this, cnt_ful n h, if_pos e, Nat.add_mul, Nat.one_mul]
    · have : FT n T m = fun _ => false := by funext s; unfold FT; rw [Bool.not_eq_true] at e; rw [e, Bool.false_and]
      rw [this, cnt_zero _ _ fun _ _ => rfl, if_neg e, Nat.add_zero, Nat.add_zero]
theorem told_count (f : Nat → Bool) : ∀ n, (told f n).length = cnt f n
  | 0 => rfl
  | n + 1 => by
    rw [told_succ]
    simp only [cnt]
    by_cases h : f n = true
    · rw [if_pos h, if_pos h, List.length_append, told_count f n]; rfl
    · rw [if_neg h, if_neg h, told_count f n]; rfl
theorem cnt_more (f : Nat → Bool) (p : Nat) (h : f p = false) : ∀ m, p < m → cnt (upd f p true) m = cnt f m + 1
  | 0, hp => by omega
  | m + 1, hp => by
    simp only [cnt]
    by_cases e : p = m
    · subst e
      rw [cnt_congr p fun i hi => show upd f p true i = f i from if_neg (by omega), show upd f p true p = true from if_pos rfl, h]
      rfl
    · rw [cnt_more f p h m (by omega), show upd f p true m = f m from if_neg (fun h => e h.symm)]
      omega
/-- The i-th page. -/
def lk (T : Nat → Bool) (i : Nat) : Nat := (told T 1024).getD i 0
def thr (T : Nat → Bool) (i : Nat) : Nat := if i < (told T 1024).length then lk T i else 1024
section
variable {T : Nat → Bool} {n i : Nat}
theorem lk_mem (hi : i < (told T 1024).length) : lk T i < 1024 ∧ T (lk T i) = true := by
  have : lk T i ∈ told T 1024 := by
    unfold lk
    rw [List.getD_eq_getElem?_getD, List.getElem?_eq_getElem hi]
    exact List.getElem_mem _
  exact (told_mem T 1024 _).1 this
theorem lk_lt {j : Nat} (h : i < j) (hj : j < (told T 1024).length) : lk T i < lk T j := by
  have hs := told_sorted T 1024
  rw [List.pairwise_iff_getElem] at hs
  have := hs i j (by omega) hj h
  unfold lk
  rw [List.getD_eq_getElem?_getD, List.getD_eq_getElem?_getD, List.getElem?_eq_getElem (show i < _ by omega), List.getElem?_eq_getElem hj]
  exact this
theorem lk_all {p : Nat} (hp : p < 1024) (h : T p = true) : ∃ j, j < (told T 1024).length ∧ lk T j = p := by
  obtain ⟨j, hj, e⟩ := List.getElem_of_mem ((told_mem T 1024 p).2 ⟨hp, h⟩)
  exact ⟨j, hj, by unfold lk; rw [List.getD_eq_getElem?_getD, List.getElem?_eq_getElem hj]; exact e⟩
/-- Behind a page's first k slots. -/
def H (n : Nat) (T : Nat → Bool) (x k : Nat) : Nat → Nat → Bool := fun p s => (T p && decide (s < n)) && (decide (x < p) || (decide (p = x) && decide (k ≤ s)))
def Sg (n : Nat) (T : Nat → Bool) (y : Nat) : Nat → Nat → Bool := fun p s => (T p && decide (s < n)) && decide (y ≤ p)
theorem H_zero (x : Nat) : H n T x 0 = Sg n T x := by
  funext p s
  unfold H Sg
  congr 1
  rw [Bool.eq_iff_iff]
  simp
  omega
theorem H_step (x k : Nat) : upp (H n T x k) x (upd (H n T x k x) k false) = H n T x (k + 1) := by
  funext p s
  unfold upp upd
  by_cases h : p = x
  · subst h
    rw [if_pos rfl]
    by_cases e : s = k
    · subst e; rw [if_pos rfl]; unfold H; simp
    · rw [if_neg e]; unfold H
      have : decide (k ≤ s) = decide (k + 1 ≤ s) := by rw [Bool.eq_iff_iff]; simp; omega
      rw [this]
  · rw [if_neg h]; unfold H; simp [h]
theorem H_last' (x y : Nat) (h : ∀ p, T p = true → (x < p ↔ y ≤ p)) : H n T x n = Sg n T y := by
  funext p s
  unfold H Sg
  by_cases h1 : T p = true ∧ s < n
  · have e1 : decide (n ≤ s) = false := by simp; omega
    rw [e1, Bool.and_false, Bool.or_false]
    congr 1
    rw [Bool.eq_iff_iff]
    simp only [decide_eq_true_eq]
    exact h p h1.1
  · have : (T p && decide (s < n)) = false := by
      cases e : T p with
      | false => rfl
      | true => rw [Bool.true_and]; simp; exact Nat.le_of_not_lt fun h2 => h1 ⟨e, h2⟩
    rw [this, Bool.false_and, Bool.false_and]
theorem lk_le {j : Nat} (h : i ≤ j) (hj : j < (told T 1024).length) : lk T i ≤ lk T j := by
  rcases Nat.lt_or_eq_of_le h with h6 | h6
  · exact Nat.le_of_lt (lk_lt h6 hj)
  · rw [h6]; exact Nat.le_refl _
theorem thr_in (h : i < (told T 1024).length) : thr T i = lk T i := if_pos h
theorem thr_out (h : ¬ i < (told T 1024).length) : thr T i = 1024 := if_neg h
theorem H_last (hT : ∀ p, T p = true → p < 1024) (hi : i < (told T 1024).length) : H n T (lk T i) n = Sg n T (thr T (i + 1)) := by
  refine H_last' _ _ fun p hp => ?_
  obtain ⟨j, hj, hjp⟩ := lk_all (hT p hp) hp
  by_cases hl : i + 1 < (told T 1024).length
  · rw [thr_in hl]
    by_cases h3 : j ≤ i
    · have h4 := lk_le (T := T) h3 hi
      have h5 := lk_lt (T := T) (show i < i + 1 by omega) hl
      omega
    · have h4 := lk_le (T := T) (show i + 1 ≤ j by omega) hj
      have h5 := lk_lt (T := T) (show i < i + 1 by omega) hl
      omega
  · rw [thr_out hl]
    have h4 := lk_le (T := T) (show j ≤ i by omega) hi
    have := hT p hp
    omega
theorem Sg_zero (hT : ∀ p, T p = true → p < 1024) : Sg n T (thr T 0) = FT n T := by
  funext p s
  unfold Sg FT
  by_cases h : T p = true
  · obtain ⟨j, hj, hjp⟩ := lk_all (hT p h) h
    have : thr T 0 ≤ p := by
      rw [thr_in (by omega), ← hjp]
      exact lk_le (by omega) hj
    rw [decide_eq_true this, Bool.and_true]
  · rw [Bool.not_eq_true] at h; rw [h, Bool.false_and, Bool.false_and]
theorem Sg_last (hT : ∀ p, T p = true → p < 1024) (m : Nat) (hm : (told T 1024).length = m) (p s : Nat) : Sg n T (thr T m) p s = false := by
  have e : thr T m = 1024 := thr_out (by rw [hm]; exact Nat.lt_irrefl _)
  rw [e]
  generalize 1024 = M at *
  unfold Sg
  cases e : T p with
  | false => rfl
  | true =>
    have := hT p e
    rw [decide_eq_false (show ¬ M ≤ p by omega), Bool.and_false]
theorem H_at (x k : Nat) (hk : k < n) (hx : T x = true) : H n T x k x k = true ∧ (∀ p, p < x → ∀ t, H n T x k p t = false) ∧ (∀ t, t < k → H n T x k x t = false) := by
  unfold H
  refine ⟨by simp [hx, hk], fun p hp t => ?_, fun t ht => ?_⟩
  · simp [show ¬ x < p by omega, show ¬ p = x by omega]
  · simp [show ¬ k ≤ t by omega]
theorem H_not (x k : Nat) (hS : Sound n (H n T x (k + 1)) T) (hk : k < n) : wh n (H n T x (k + 1)) x = false := by
  rw [← Bool.not_eq_true, wh_iff hS]
  intro e
  have := congrFun e k
  unfold H ful at this
  simp [hk] at this
  omega
theorem Sg_whole (x : Nat) (hS : Sound n (Sg n T x) T) (hx : T x = true) : wh n (Sg n T x) x = true := by
  rw [wh_iff hS]
  funext s
  unfold Sg ful
  simp [hx]
end
theorem cnt_noT : cnt noT 1024 = 0 := cnt_zero noT 1024 fun _ _ => rfl
theorem bfree_int {w : World} {bp per : Nat} {F : Nat → Nat → Bool} {T : Nat → Bool} (h : Book w bp per F T) (x : Int) (hx : ((tot F 1024 : Nat) : Int) = x) :
    Calls Tryd.prog 11 #[.pointer (some ⟨bp, 0, none⟩)] w fun e w' => e = .returned (.int .i64 x) ∧ w = w' := by
  have := bfree_any h; rw [hx] at this; exact this
theorem bwhole_is {w : World} {bp per : Nat} {F : Nat → Nat → Bool} {T : Nat → Bool} (h : Book w bp per F T) (n : Nat) (hT : T n = true) (b : Bool) (hb : wh per F n = b) :
    Calls Tryd.prog 14 #[.pointer (some ⟨bp, 0, none⟩), .int .i64 n] w fun e w' => e = .returned (.bool b) ∧ ∃ nd, w' = w.drewN nd := by
  have := bwhole_any h n (h.2.2.2.2 n hT); rw [hT, hb, Bool.true_and] at this; exact this
theorem ivs_get (l : List Nat) (k : Nat) (h : k < l.length) : (ivs l)[k]? = some (.int .i64 (l.getD k 0 : Nat)) := by
  unfold ivs
  rw [List.getElem?_map, List.getElem?_eq_getElem h, List.getD_eq_getElem?_getD, List.getElem?_eq_getElem h]; rfl
set_option maxHeartbeats 4000000 in
set_option maxRecDepth 100000 in
theorem walk0 (n : Nat) (hn1 : 1 ≤ n) (hn2 : n ≤ 16) (a0 : Int) (h00 : 0 ≤ a0) (h01 : a0 ≤ 255) (he : 1 + a0 % 16 = n) (a1 : Option Addr) (b off len1 cap1 : Nat) (z1 : List Int) (w : World) (hT : Tab32 w) (ha1 : len1 = 0 ∨ a1 = some ⟨b, off, none⟩) (hlen : len1 ≤ 9223372036854775807) (hzl : z1.length = len1) (hwf : ∀ z ∈ z1, (Lit.int .u16 z).wf = true) (hb : 0 < len1 → b < w.heap.size) (hc : ∀ i, i < len1 → w.cell? ⟨b, off + i, none⟩ = some (.int .u16 (z1.getD i 0))) :
    Calls Tryd.prog 4 #[.int .u8 a0, .slice a1 len1 cap1] w fun e w' => e = .returned (.bool true) ∧ Fr [] w w' := by
  have Hc := Lib.hid fun i (hi : i < len1) => show ∃ z : Int, w.cell? ⟨b, off + i, none⟩ = some (.int .u16 z) ∧ 0 ≤ z ∧ z ≤ 65535 from
    ⟨_, hc i hi, by
      have := bounds_u16 (hwf (z1.getD i 0) (by
        rw [List.getD_eq_getElem?_getD, List.getElem?_eq_getElem (by rw [hzl]; exact hi)]
        exact List.getElem_mem _))
      exact this⟩
  have Hb := Lib.hid hb
  have HA1 := Lib.hid ha1
  have HT := Lib.hid hT
  have hTl := hT.lt
  clear hc hwf hzl hb ha1 hT
  go_enter Tryd.func4, Tryd.ntmps4
  go_wp2_with fail
  refine (bnew_any n hn1 hn2 _).mono ?_
  rintro e w1 ⟨bp, rfl, h1, hbp, hf1⟩
  have H1 := Lib.hid h1
  have F1 := Lib.hid hf1
  clear h1 hf1
  go_upto_block 0 with (fail)
  go_cut [7] (fun c wx => ∃ T : Nat → Bool, c = .int .i64 (cnt T 1024 : Nat) ∧ cnt T 1024 ≤ 20 ∧ Book wx bp n (FT n T) T ∧ Fr [] w wx)
  case rest =>
    obtain ⟨T, rfl, hmk, hb, hf⟩ := hcut
    have HB := Lib.hid hb
    have HF := Lib.hid hf
    clear hb hf H1 F1
    have hcb := Lib.hid (cnt_le T 1024)
    obtain ⟨M, hM⟩ : ∃ M, cnt T 1024 = M := ⟨_, rfl⟩
    rw [hM] at hmk hcb ⊢
    have HTM := Lib.hid (show (told T 1024).length = M by rw [told_count]; exact hM)
    have HTOT := Lib.hid (show ((tot (FT n T) 1024 : Nat) : Int) = (M : Int) * (n : Int) by rw [tot_FT n hn2 T 1024, hM]; exact Int.natCast_mul _ _)
    have hTlt := HB.out.2.2.2.2
    have hmn : M * n ≤ 320 := Nat.mul_le_mul (show M ≤ 20 by omega) hn2
    have hmul0 : (0 : Int) ≤ (M : Int) * (n : Int) := by rw [← Int.natCast_mul]; exact Int.natCast_nonneg _
    have hmul1 : (M : Int) * (n : Int) ≤ 320 := by rw [← Int.natCast_mul]; exact Int.ofNat_le.2 hmn
    have hbw := HB.out.lt
    clear hM hmn
    go_wp2_with fail
    refine (bpages_any HB.out).mono ?_
    rintro e w5 ⟨v, rfl, ho, hf5⟩
    rw [HTM.out] at ho
    obtain ⟨a, c, rfl, hMc⟩ := own_slice ho
    have HO := Lib.hid ho
    have HB5 := Lib.hid (HB.out.fr hf5 (by simp))
    have HF5 := Lib.hid (HF.out.trans0 hf5)
    have HT5 := Lib.hid (HT.out.fr HF5.out (by simp))
    have HS0 := Lib.hid (Sg_zero (n := n) hTlt)
    have HSL := Lib.hid (Sg_last (n := n) hTlt M HTM.out)
    have HTL := Lib.hid hTlt
    have h5s := hf5.size
    clear ho hf5 HB HF hTlt hMc
    go_wp2_with fail
    refine (bfree_int HB5.out ((M : Int) * (n : Int)) HTOT.out).mono ?_
    rintro e w' ⟨rfl, rfl⟩
    have HB6 := Lib.hid HB5.out
    rw [← HS0.out] at HB6
    clear HB5
    go_wp2_with fail
    go_loopw [10] (fun v wr => ∃ i : Nat, i ≤ M ∧ v = .int .i64 i ∧ Book wr bp n (Sg n T (thr T i)) T ∧ Fr [bp] w5 wr) (fun v _ => M - (intOf v).toNat)
    case atStart => exact ⟨0, by omega, rfl, HB6.out, Fr.refl _ _⟩
    case round =>
      clear HB6
      obtain ⟨i, hi, rfl, hb, hf⟩ := hrel
      have HB := Lib.hid hb
      have HF := Lib.hid hf
      clear hb
      by_cases hiM : i < M
      · obtain ⟨g, c', hv, hMc, hgw, hgl, hcells, _⟩ := own_open HO.out (by omega)
        injection hv with ha _ hc
        subst ha hc
        have hbg : bp ≠ g := by omega
        have ci0 := (hcells i hiM).trans (ivs_get _ i (by rw [HTM.out]; exact hiM))
        have HX := Lib.hid (lk_mem (T := T) (i := i) (by rw [HTM.out]; exact hiM))
        have HLX := Lib.hid (H_last (n := n) HTL.out (i := i) (by rw [HTM.out]; exact hiM))
        have hthr : thr T i = lk T i := thr_in (by rw [HTM.out]; exact hiM)
        rw [hthr] at HB
        have hlt0 := Lib.hid fun (h : 0 < i) => lk_lt (T := T) (show i - 1 < i by omega) (by rw [HTM.out]; exact hiM)
        have ci1 := Lib.hid fun (h : 0 < i) => (hcells (i - 1) (by omega)).trans (ivs_get _ (i - 1) (by rw [HTM.out]; omega))
        change w5.cell? _ = some (.int .i64 (lk T i : Nat)) at ci0
        change Hid (0 < i → w5.cell? _ = some (.int .i64 (lk T (i - 1) : Nat))) at ci1
        obtain ⟨X, hX⟩ : ∃ X, lk T i = X := ⟨_, rfl⟩
        rw [hX] at ci0 HX HLX hlt0 HB
        obtain ⟨hX1, hXT⟩ := HX.out
        have HTX := Lib.hid hXT
        have ci := Lib.hid ci0
        have cX := (hf.cell (a := ⟨g, i, none⟩) hgl (by simp; omega)).trans ci0
        have CW := Lib.hid fun nq => bwhole_is (HB.out.hp (w' := wr.drewN nq) rfl) X hXT true (Sg_whole X HB.out.2 hXT)
        have hbt : bp ≠ 0 := by omega
        clear hcells hX hthr hXT hgw hMc ci0
        have i1 : ((i : Int) - 1).toNat = i - 1 := by omega
        have cd : 0 < i → wr.cell? ⟨g, i - 1, none⟩ = some (.int .i64 (lk T (i - 1) : Nat)) := fun h => (hf.cell (a := ⟨g, i - 1, none⟩) hgl (by simp; omega)).trans (ci1.out h)
        have CD := Lib.hid cd
        clear hf cd ci1
        go_upto_region 17 with (fail)
        go_cut [87] (fun s wx => s = .bool false ∧ ∃ nq, wx = wr.drewN nq)
        case first =>
          by_cases hi0 : 0 < i
          · have d0 := CD.out hi0
            have hl := hlt0.out hi0
            obtain ⟨Y, hY⟩ : ∃ Y, lk T (i - 1) = Y := ⟨_, rfl⟩
            rw [hY] at d0 hl
            have dd : decide ((0 : Int) < (i : Int)) = true := by simp; omega
            have d1 : decide (X ≤ Y) = false := by simp; omega
            have w1 : IntKind.i64.wrap ((i : Int) - 1) = (i : Int) - 1 := IntWalk.i64_in _ (by omega)
            have w2 : (0 : Int) ≤ (i : Int) - 1 := by omega
            have w3 : (i : Int) - 1 < (M : Int) := by omega
            have w4 : (1 : Int) ≤ (i : Int) := by omega
            clear hlt0 CD hY
            go_quiet ((go_at_call 14; exact q_draw (CW.out _)))
            go_wp2_with fail
            go_meet
            exact ⟨rfl, nq, rfl⟩
          · have dd : decide ((0 : Int) < (i : Int)) = false := by simp; omega
            clear hlt0 CD
            go_quiet ((go_at_call 14; exact q_draw (CW.out _)))
            go_wp2_with fail
            go_meet
            exact ⟨rfl, nq, rfl⟩
        case rest =>
          obtain ⟨rfl, nq, hnq⟩ := hcut
          subst hnq
          clear hlt0 CD CW cX i1
          have HB0 := Lib.hid ((H_zero (n := n) (T := T) X).symm ▸ HB.out : Book (wr.drewN nq) bp n (H n T X 0) T)
          go_wp2_with fail
          go_loopw [11] (fun v w2 => ∃ j : Nat, j ≤ n ∧ v = .int .i64 j ∧ Book w2 bp n (H n T X j) T ∧ Fr [bp] w5 w2) (fun v _ => n - (intOf v).toNat)
          case atStart => exact ⟨0, by omega, rfl, HB0.out.hp rfl, HF.out.hd' rfl rfl rfl rfl⟩
          case round =>
            clear HB0 HB HF
            obtain ⟨j, hj, rfl, hb, hf⟩ := hrel
            have HB := Lib.hid hb
            have HF := Lib.hid hf
            clear hb
            by_cases hjn : j < n
            · have hat := Lib.hid (H_at (n := n) (T := T) X j hjn HTX.out)
              have C := Lib.hid (btake_is HB.out (HT5.out.fr hf (by simp; omega)) hbt X j hat.out.1 hat.out.2.1 hat.out.2.2)
              rw [H_step] at C
              have cX := (hf.cell (a := ⟨g, i, none⟩) (lt_of_cell ci.out) (by simp; omega)).trans ci.out
              have glt := lt_of_cell ci.out
              clear hf
              go_wp2_with fail
              refine (C.out).mono ?_
              rintro e w7 ⟨rfl, h7, hf7⟩
              have HF7 := Lib.hid (HF.out.trans hf7 (by simp))
              have cX7 := (HF7.out.cell (a := ⟨g, i, none⟩) glt (by simp; omega)).trans ci.out
              have H7 := Lib.hid h7
              have hnw := H_not X j h7.2 hjn
              have HNW := Lib.hid hnw
              clear h7 hf7 cX hnw C
              go_wp2_with fail
              refine (bwhole_is H7.out X HTX.out false HNW.out).mono ?_
              rintro e w' ⟨rfl, nd, rfl⟩
              go_wp2_with fail
              refine (bdrop_no (H7.out.hp (w' := w7.drewN nd) rfl) X hX1 (by rw [HNW.out, Bool.and_false])).mono ?_
              rintro e w8 ⟨rfl, hf8⟩
              have hf9 := HF7.out.trans0 (hf8.hd (w := w7) rfl rfl rfl rfl)
              have HB9 := Lib.hid (H7.out.fr (hf8.hd (w := w7) rfl rfl rfl rfl) (by simp))
              have HF9 := Lib.hid hf9
              clear hf8 hf9
              go_wp2_with fail
              go_roundw
              case rel => exact ⟨j + 1, by omega, by go_num, HB9.out, HF9.out⟩
              case measure => simp [intOf]; omega
            · obtain rfl : j = n := by omega
              have HB9 := Lib.hid HB.out
              rw [HLX.out] at HB9
              clear hf
              go_wp2_with fail
              go_roundw
              case rel => exact ⟨i + 1, by omega, by go_num, HB9.out, HF.out⟩
              case measure => simp [intOf]; omega
      · obtain rfl : i = M := by omega
        have hbt : bp ≠ 0 := by omega
        have C := Lib.hid (btake_no HB.out (HT5.out.fr hf (by simp; omega)) hbt HSL.out)
        have HZ := Lib.hid (tot_zero _ HSL.out 1024)
        clear hf
        go_wp2_with fail
        refine (C.out).mono ?_
        rintro e w7 ⟨rfl, hf7⟩
        have HB7 := Lib.hid (HB.out.fr hf7 (by simp))
        have HF7 := Lib.hid ((HF5.out.trans HF.out (by simp; exact hbp)).trans0 hf7)
        clear hf7
        go_wp2_with fail
        refine (bfree_int HB7.out 0 (by rw [HZ.out]; rfl)).mono ?_
        rintro e w' ⟨rfl, rfl⟩
        go_wp2_with fail
        refine (works_any _ (HT.out.fr HF7.out (by simp))).mono ?_
        rintro e w8 ⟨rfl, hf8⟩
        go_wp2_with fail
        go_ret
        exact ⟨rfl, HF7.out.trans0 hf8⟩
  go_wp2_with fail
  go_loopw [7, 8] (fun c i wr => ∃ (k : Nat) (T : Nat → Bool), k ≤ 20 ∧ i = .int .i64 k ∧ c = .int .i64 (cnt T 1024 : Nat) ∧ cnt T 1024 ≤ k ∧ Book wr bp n (FT n T) T ∧ Fr [] w wr) (fun _ i _ => 20 - (intOf i).toNat)
  case atStart => exact ⟨0, noT, by omega, rfl, by rw [cnt_noT]; rfl, by rw [cnt_noT]; omega, H1.out, F1.out⟩
  case round =>
    clear H1 F1
    obtain ⟨k, T, hk, rfl, rfl, hmk, hb, hf⟩ := hrel
    have HB := Lib.hid hb
    have HF := Lib.hid hf
    clear hb
    by_cases hlt : k < len1 ∧ k < 20
    · obtain ⟨hl1, hl2⟩ := hlt
      obtain rfl : a1 = some ⟨b, off, none⟩ := HA1.out.resolve_left (by omega)
      obtain ⟨z, hz, z0, z1'⟩ := Hc.out k hl1
      replace hz := (hf.cell (a := ⟨b, _, none⟩) (Hb.out (by omega)) (by simp)).trans hz
      obtain ⟨p, hp⟩ := Int.eq_ofNat_of_zero_le (show 0 ≤ z % 1024 by omega)
      have hp1 : p < 1024 := by omega
      have hdec : decide ((k : Int) < (len1 : Int)) = true := by simpa using hl1
      clear hf
      by_cases hTp : T p = true
      · have C := Lib.hid (badd_twice HB.out p hTp)
        obtain ⟨t, ht⟩ : ∃ t, cnt T 1024 = t := ⟨_, rfl⟩
        rw [ht] at hmk ⊢
        have HTE := Lib.hid ht
        clear hTp ht
        go_wp2_with fail
        refine (C.out).mono ?_
        rintro e w5 ⟨rfl, hf5⟩
        have HB5 := Lib.hid (HB.out.fr hf5 (by simp))
        have HF5 := Lib.hid (HF.out.trans0 hf5)
        clear hf5
        go_wp2_with fail
        go_roundw
        case rel => exact ⟨k + 1, T, by omega, by go_num, by rw [HTE.out], by rw [HTE.out]; omega, HB5.out, HF5.out⟩
        case measure => simp [intOf]; omega
      · rw [Bool.not_eq_true] at hTp
        have C := Lib.hid (badd_yes HB.out p hp1 hTp)
        rw [FT_add] at C
        have HCM := Lib.hid (cnt_more T p hTp 1024 hp1)
        obtain ⟨t, ht⟩ : ∃ t, cnt T 1024 = t := ⟨_, rfl⟩
        rw [ht] at hmk HCM ⊢
        clear hTp ht
        go_wp2_with fail
        refine (C.out).mono ?_
        rintro e w5 ⟨rfl, h5, hf5⟩
        have HB5 := Lib.hid h5
        have HF5 := Lib.hid (HF.out.trans hf5 (by simp; exact hbp))
        clear hf5 h5
        go_wp2_with fail
        go_roundw
        case rel => exact ⟨k + 1, upd T p true, by omega, by go_num, by rw [HCM.out]; go_num, by rw [HCM.out]; omega, HB5.out, HF5.out⟩
        case measure => simp [intOf]; omega
    · clear hf
      obtain ⟨t, ht⟩ : ∃ t, cnt T 1024 = t := ⟨_, rfl⟩
      rw [ht] at hmk ⊢
      have HTE := Lib.hid ht
      clear ht
      by_cases hl1 : k < len1
      · have hd1 : decide ((k : Int) < (len1 : Int)) = true := by simpa using hl1
        have hd2 : ¬ k < 20 := fun h => hlt ⟨hl1, h⟩
        clear hlt
        go_wp2_with fail
        go_meet
        exact ⟨T, by rw [HTE.out], by rw [HTE.out]; omega, HB.out, HF.out⟩
      · clear hlt
        go_wp2_with fail
        go_meet
        exact ⟨T, by rw [HTE.out], by rw [HTE.out]; omega, HB.out, HF.out⟩
theorem walk (a0 : Int) (w0 : (Lit.int .u8 a0).wf = true) (a1 : Option Addr) (len1 cap1 : Nat) (z1 : List Int) (w : World) (w1 : Ints .u16 w a1 len1 z1) (hT : Tab32 w) :
    Calls Tryd.prog 4 #[.int .u8 a0, .slice a1 len1 cap1] w fun e w' => e = .returned (.bool true) ∧ Fr [] w w' := by
  have hb0 := bounds_u8 w0
  obtain ⟨h1, h2, h3, h4⟩ := w1
  rcases h4 with h4 | ⟨b, off, h5, h6, h7⟩
  · exact walk0 (1 + a0 % 16).toNat (by omega) (by omega) a0 hb0.1 hb0.2 (by omega) a1 0 0 len1 cap1 z1 w hT (.inl h4) h1 h2 h3 (fun h => by omega) (fun i hi => by omega)
  · exact walk0 (1 + a0 % 16).toNat (by omega) (by omega) a0 hb0.1 hb0.2 (by omega) a1 b off len1 cap1 z1 w hT (.inr h5) h1 h2 h3 (fun _ => h6) h7
theorem laidOut : laidOutB Tryd.prog = true := by kernel_rfl
set_option maxRecDepth 100000 in
theorem lifted (os : Os) (started : os.Started) (H : Type) (enc : TypeId × Value → H) :
    ReturnsInHanded {} Tryd.checked os 4 .any (fun w args => (Rows.slotsLeastSpec.pre enc Tryd.prog Tryd.f4 [] false w args ∧ laidMetH Tryd.prog laidL w) ∧ sizedMet enc Tryd.prog Tryd.f4 (OpenSpec.ofChange Rows.slotsLeastSpec) false w args) (Rows.slotsLeastSpec.post enc Tryd.prog Tryd.f4 false true false false) := by
  refine returnsInHanded_of_change_and (C := Tryd.checked) (X := fun w _ => laidMetH Tryd.prog laidL w) (fun _ _ _ hh h => h.of_heap hh) own started (by kernel_rfl) Tryd.func4
    (ChangeSpec.witness_at (enc := enc) (C := Tryd.checked) (os := os) (X := fun w _ => laidMetH Tryd.prog laidL w) false (laidWorld os) #[.int .u8 0, .slice none 0 0] 8 rfl (by kernel_rfl) (by kernel_rfl) (by kernel_rfl) (by kernel_rfl) (by kernel_rfl) (laidWorld_met os _)) ?_
  intro W base args ds gs before hval0 hW _ _ hL _
  have hT := tab_of_laid hL
  have hval : ∀ (j : Nat) t v, Tryd.f4.params[j]? = some t → args[j]? = some v → Value.okWide Tryd.prog W .any base t v := hval0
  have hW' := hW
  obtain ⟨p, q, hA0, hV, rfl, hfz, hnd⟩ := hW
  have hA : DataW.TrodAll enc Tryd.prog W 0 (fun _ => true) true Tryd.f4.params.toList args.toList ds p := hA0
  rw [Tryd.params4] at hA hval
  obtain ⟨v0, vs0, d0, ds0, p0, q0, hargs, rfl, rfl, h0, r0⟩ := trodAll_cons hA
  obtain ⟨v1, vs1, d1, ds1, p1, q1, rfl, rfl, rfl, h1, r1⟩ := trodAll_cons r0
  obtain ⟨rfl, rfl, rfl⟩ := trodAll_nil r1
  obtain rfl : args = #[v0, v1] := by cases args; simp_all
  obtain ⟨rfl, rfl⟩ := trodVars_none hV
  obtain ⟨a0, rfl, rfl, rfl, w0⟩ := open_int Tryd.underlying5 (hval 0 5 v0 rfl rfl) h0
  obtain ⟨a1, len1, cap1, rfl⟩ := okWide_slice Tryd.underlying35 (hval 1 35 v1 rfl rfl)
  have k1 := h1
  have lt1 : ∀ x ∈ p1, x.block < W.heap.size := by obtain ⟨m, hm⟩ := k1; exact DataW.trod_lt m _ _ _ hm
  obtain ⟨z1, w1⟩ : ∃ zs, Ints .u16 W a1 len1 zs := by
    obtain ⟨fuel, hf⟩ := h1
    rcases open_ints Tryd.underlying35 Tryd.underlying36 (by kernel_rfl) hf with ⟨hcs, _⟩ | ⟨x, l, c, zs, hcs, _, hl, hm, hz, _, hcell, hwz⟩
    · simp [Value.cells] at hcs
      obtain ⟨rfl, rfl, rfl⟩ := hcs
      exact ⟨[], Ints.nil _⟩
    · simp [Value.cells] at hcs
      obtain ⟨rfl, rfl, rfl⟩ := hcs
      exact ⟨zs.take len1, Ints.of hl hm (by simpa using hz) hcell hwz⟩
  clear hA0 hval0
  refine (walk a0 w0 a1 len1 cap1 z1 W w1 hT).mono fun e W' ⟨he, hg⟩ => ?_
  subst he
  have bel := hg.below
  exact ⟨_, rfl, _, _, _, [], _, [], hW', trodAll_mk1 (shut_bool Tryd.underlying4 _), (trodAll_cons_mk (shut_int Tryd.underlying5 w0) (trodAll_cons_mk (Below.trod laidOut (by kernel_rfl) (of_decide_eq_true (by kernel_rfl)) k1 bel lt1) trodAll_mk0)), rfl, bel.frame _, fun h => by cases h⟩
theorem over : Rows.slotsLeastRow.holds Tryd.pinned (OpenSpec.ofChange Rows.slotsLeastSpec) :=
  OpenClaim.holds_of_wide 4 Tryd.f4 rfl rfl rfl rfl rfl rfl rfl ⟨rfl, rfl, rfl, rfl, rfl⟩ rfl rfl rfl rfl rfl (by kernel_rfl) Tryd.func4 (by kernel_rfl)
    (of_decide_eq_true (by kernel_rfl)) (by unfold Func.isWrapper; first | (rw [if_pos (by decide +kernel)]; kernel_rfl) | (rw [if_neg (by decide +kernel)]; exact ⟨rfl, rfl⟩))
    (fun os started H enc _ => lifted os started H enc)
set_option maxRecDepth 100000 in
/-- The card, tied. -/
theorem proved : Rows.SlotsLeastCardSaid :=
  Claim7.holds_tied_plain_at .later [] [.data] true (true, "cf9a7591cfa8dce3dcc3bf8a48b51dd81b21bd8b37a86308b919ccced3aca6f0") false
    over (fun _ h => by cases h) (by kernel_rfl) (fun _ h => by cases h) slotsLeast_row_tie rfl ⟨rfl, rfl⟩ (by kernel_rfl) rfl
    (fun f fn hf hfn => by
      obtain rfl : f = 4 := Option.some.inj ((show Tryd.prog.funcNamed "fallow/fallowlaw13.SlotsLeast" = some 4 by kernel_rfl).symm.trans hf) |>.symm
      obtain rfl : fn = Tryd.f4 := (Option.some.inj (Tryd.func4.symm.trans hfn)).symm
      exact ⟨by kernel_rfl, fun j t ht => by
        have hm : t ∈ Tryd.f4.params.toList := by simpa using Array.mem_of_getElem? ht
        have hall : (Tryd.f4.params.toList.all fun u => !Tryd.prog.wantsStandIn u) = true := by kernel_rfl
        exact (show Tryd.prog.wantsStandIn t = false by simpa using List.all_eq_true.1 hall t hm)⟩)
    (by kernel_rfl)
end slotsLeast
end Go.Proofs.YtggcmeoafbmckaaDoor
