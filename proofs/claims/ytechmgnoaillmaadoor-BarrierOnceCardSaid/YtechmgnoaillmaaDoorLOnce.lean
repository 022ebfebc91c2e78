/-
  BarrierOnce: in a sweep each page is marked once. Condition: the table of math/bits is as the library lays it (the row lists it).
-/



import Derived.Test.YtechmgnoaillmaaDoorWorks
import Derived.Test.YtechmgnoaillmaaDoorDoor
set_option linter.unusedVariables false
namespace Go.Proofs.YtechmgnoaillmaaDoor
open Go.ChangeShapes Go.WideShapes Go.ChangeAt Go.RowKit
namespace barrierOnce
/-- How often each page was marked. -/
def tms (f : Nat → Bool) (n : Nat) : Array Value := ((List.range 100).map fun i => Value.int .i64 (if i < n ∧ f i = false then 1 else 0)).toArray
theorem tms_get (f : Nat → Bool) (n i : Nat) (h : i < 100) : (tms f n)[i]? = some (.int .i64 (if i < n ∧ f i = false then 1 else 0)) := by
  unfold tms; rw [List.getElem?_toArray, List.getElem?_map, List.getElem?_range h]; rfl
theorem tms_size (f : Nat → Bool) (n : Nat) : (tms f n).size = 100 := by simp [tms]
theorem tms_set (f : Nat → Bool) (n i : Nat) (hi : i < n) : (tms f n).setIfInBounds i (.int .i64 1) = tms (upd f i false) n := by
  refine Array.ext_getElem? fun j => ?_
  rw [Array.getElem?_setIfInBounds, tms_size]
  by_cases hj : j < 100
  · rw [tms_get _ _ _ hj, tms_get _ _ _ hj]
    unfold upd
    by_cases e : i = j
    · subst e; simp [hj, hi]
    · rw [if_neg e]; simp only [if_neg (show ¬ j = i from fun h => e h.symm)]
  · have h1 : ∀ f, (tms f n)[j]? = none := fun f => Array.getElem?_eq_none (by rw [tms_size]; omega)
    rw [h1, h1]
    by_cases e : i = j
    · subst e; simp [hj]
    · rw [if_neg e]
theorem tms_new (n : Nat) : tms (fstF n) n = tms (fun _ => false) 0 := by
  refine Array.ext_getElem? fun j => ?_
  by_cases hj : j < 100
  · rw [tms_get _ _ _ hj, tms_get _ _ _ hj, if_neg (by unfold fstF; simp), if_neg (by omega)]
  · rw [Array.getElem?_eq_none (by rw [tms_size]; omega), Array.getElem?_eq_none (by rw [tms_size]; omega)]
theorem zero100 (w : World) : (zeroValue 29).run Tryd.prog w = .ok (.agg (tms (fun _ => false) 0)) w := by kernel_rfl
theorem cnt_clr (f : Nat → Bool) (i : Nat) (hf : f i = true) : ∀ n, cnt (upd f i false) n + (if i < n then 1 else 0) = cnt f n
  | 0 => by simp [cnt]
  | n + 1 => by
    have ih := cnt_clr f i hf n
    simp only [cnt]
    by_cases e : n = i
    · subst e
      rw [if_neg (by omega)] at ih
      have : upd f n false n = false := by simp [upd]
      simp [this, hf]; omega
    · have : upd f i false n = f n := by simp [upd, e]
      rw [this]
      by_cases h : i < n
      · rw [if_pos h] at ih; rw [if_pos (show i < n + 1 by omega)]; omega
      · rw [if_neg h] at ih; rw [if_neg (show ¬ i < n + 1 by omega)]; omega
theorem cnt_fst (n : Nat) : ∀ m, m ≤ n → cnt (fstF n) m = m
  | 0, _ => rfl
  | m + 1, h => by simp only [cnt, cnt_fst n m (by omega), fstF, decide_eq_true (show m < n by omega)]; rfl
theorem told_cnt (f : Nat → Bool) : ∀ n, told f n = [] → ∀ i, i < n → f i = false := fun n h i hi => by
  cases hf : f i with
  | false => rfl
  | true => have := (told_mem f n i).2 ⟨hi, hf⟩; rw [h] at this; cases this
set_option maxHeartbeats 4000000 in
set_option maxRecDepth 100000 in
theorem walk0 (n : Nat) (hn : n ≤ 99) (a0 : Int) (h00 : 0 ≤ a0) (h01 : a0 ≤ 255) (he : a0 % 100 = n) (a1 : Option Addr) (b off len1 cap1 : Nat) (z1 : List Int) (w : World) (hT : Tab w) (ha1 : len1 = 0 ∨ a1 = some ⟨b, off, none⟩) (hlen : len1 ≤ 9223372036854775807) (hzl : z1.length = len1) (hwf : ∀ z ∈ z1, (Lit.int .u8 z).wf = true) (hb : 0 < len1 → b < w.heap.size) (hc : ∀ i, i < len1 → w.cell? ⟨b, off + i, none⟩ = some (.int .u8 (z1.getD i 0))) :
    Calls Tryd.prog 3 #[.int .u8 a0, .slice a1 len1 cap1] w fun e w' => e = .returned (.bool true) ∧ Fr [] w w' := by
  have hz := zero100
  have Hc := Lib.hid fun i (hi : i < len1) => show ∃ z : Int, w.cell? ⟨b, off + i, none⟩ = some (.int .u8 z) ∧ 0 ≤ z ∧ z ≤ 255 from
    ⟨_, hc i hi, by
      have := bounds_u8 (hwf (z1.getD i 0) (by
        rw [List.getD_eq_getElem?_getD, List.getElem?_eq_getElem (by rw [hzl]; exact hi)]
        exact List.getElem_mem _))
      exact this⟩
  have Hb := Lib.hid hb
  have HA1 := Lib.hid ha1
  have HT := Lib.hid hT
  have HCF := Lib.hid (cnt_fst n n (Nat.le_refl n))
  have HNEW := Lib.hid (tms_new n)
  have HZZ := Lib.hid (cnt_zero (fun _ => false) n fun _ _ => rfl)
  clear hc hwf hzl hb ha1 hT
  go_enter Tryd.func3, Tryd.ntmps3
  go_wp2_with fail
  refine (works_any _ HT.out).mono ?_
  rintro e w1 ⟨rfl, hf1⟩
  go_wp2_with fail
  refine (gnew_any n _ (by omega)).mono ?_
  rintro e w2 ⟨gp, p, g, rfl, h2, hgp, hp, hg, hf2⟩
  go_wp2_with fail
  refine (gstart_yes _ gp p g n _ 0 h2 7 (by decide) HZZ.out).mono ?_
  rintro e w3 ⟨rfl, h3, hf3⟩
  go_wp2_with fail
  refine (gleft_is h3 n HCF.out).mono ?_
  rintro e w' ⟨rfl, rfl⟩
  have hs1 := hf1.size
  have hl3 := h3.lt
  have F3 := Lib.hid ((hf1.trans0 hf2).trans hf3 (by simp; omega))
  have H3 := Lib.hid h3
  clear h2 hf2 hf3 h3 hf1
  go_wp2_with fail
  clear hz
  have hh := At.new w3 29 (tms (fun _ => false) 0)
  rw [← HNEW.out] at hh
  have hfa : Fr [] w3 (w3.alloc (.cells (tms (fun _ => false) 0) 29)) := (by repeat (first | exact Fr.refl _ _ | assumption | refine Fr.trans0 ?_ (by assumption) | refine Fr.drewN ?_ _ | refine Fr.alloc ?_ _ | refine Fr.drew ?_))
  have H4 := Lib.hid (H3.out.fr hfa (by simp) (by simp) (by simp))
  have F4 := Lib.hid (F3.out.trans0 hfa)
  have hsw := F3.out.size
  obtain ⟨q, hq⟩ : ∃ q, w3.heap.size = q := ⟨_, rfl⟩
  rw [hq] at hh hl3 hsw ⊢
  rw [← HNEW.out] at H4 F4 ⊢
  have HH := Lib.hid hh
  clear hh hq hfa H3 F3
  go_loopw [8] (fun i wr => ∃ (k : Nat) (f : Nat → Bool), k + cnt f n ≤ n ∧ i = .int .i64 k ∧ Gn wr gp p g n f 7 ∧ At wr q 29 (tms f n) ∧ Fr [] w wr) (fun i _ => n - (intOf i).toNat)
  case atStart => exact ⟨0, _, by rw [HCF.out]; omega, rfl, H4.out, HH.out, F4.out⟩
  case round =>
    clear H4 HH F4 HCF HNEW HZZ
    obtain ⟨k, f, hk, rfl, hg0, ha0, hf⟩ := hrel
    have HG := Lib.hid hg0
    have HA := Lib.hid ha0
    have HC := Lib.hid hk
    have HF := Lib.hid hf
    have hkn : k ≤ n := by omega
    clear hg0 ha0 hk
    by_cases h1 : k < len1
    · by_cases h2 : k < 50
      · obtain rfl : a1 = some ⟨b, off, none⟩ := HA1.out.resolve_left (by omega)
        obtain ⟨z, hz, z0, z1'⟩ := Hc.out k h1
        replace hz := (hf.cell (a := ⟨b, _, none⟩) (Hb.out (by omega)) (by simp)).trans hz
        obtain ⟨Z, rfl⟩ := Int.eq_ofNat_of_zero_le z0
        have hbw : b < wr.heap.size := lt_of_cell hz
        have HF3 := Lib.hid hf
        clear hf
        cases hm : (inR (Z : Int) n && f Z) with
        | false =>
          have M := Lib.hid (gmark_no wr gp p g n f 7 HG.out Z (by rw [Int.toNat_natCast]; exact hm))
          clear hm
          go_wp2_with fail
          refine (M.out).mono ?_
          rintro e w' ⟨rfl, rfl⟩
          have HG3 := HG
          have HA3 := HA
          have HC3 := HC
          clear M HG HA HC HF
          go_wp2_with fail
          cases ht : told f n with
          | nil =>
            obtain ⟨e1, e2⟩ := nxt_nil ht
            refine (gnext_is HG3.out (HT.out.fr HF3.out (by simp)) 0 false e1 e2).mono ?_
            rintro e w4 ⟨rfl, hf4⟩
            have HN := Lib.hid (told_cnt f n ht)
            have HZ := Lib.hid (cnt_zero f n HN.out)
            have H4 := Lib.hid (HG3.out.fr hf4 (by simp) (by simp) (by simp))
            have A4 := Lib.hid (HA3.out.fr hf4 (by simp))
            have F4 := Lib.hid (HF3.out.trans0 hf4)
            clear e1 e2 ht hf4 HG3 HA3 HF3
            go_wp2_with fail
            go_loop [11] (fun i => ∃ j : Nat, j ≤ n ∧ i = .int .i64 j) (fun i => n - (intOf i).toNat)
            case atStart => exact ⟨0, by omega, rfl⟩
            case round =>
              obtain ⟨j, hj, rfl⟩ := hrel
              by_cases hjn : j < n
              · have cj := (A4.out.cell j).trans (tms_get _ n j (by omega))
                rw [if_pos ⟨hjn, HN.out j hjn⟩] at cj
                have O := Lib.hid (gold_is H4.out j false (by rw [Int.toNat_natCast, HN.out j hjn, Bool.and_false]))
                go_wp2_with (go_at_call 13; refine (O.out).mono ?_; rintro e w' ⟨rfl, rfl⟩)
                go_round
                case rel => exact ⟨j + 1, by omega, by go_num⟩
                case measure => simp [intOf]; omega
              · obtain rfl : j = n := by omega
                go_wp2_with fail
                refine (gleft_is H4.out 0 HZ.out).mono ?_
                rintro e w' ⟨rfl, rfl⟩
                go_wp2_with fail
                refine (gstart_no _ _ _ _ _ _ _ H4.out 7 (.inl (by decide))).mono ?_
                rintro e w' ⟨rfl, rfl⟩
                go_wp2_with fail
                refine (gstart_yes _ _ _ _ _ _ _ H4.out 8 (by decide) HZ.out).mono ?_
                rintro e w6 ⟨rfl, h6, hf6⟩
                go_wp2_with fail
                go_ret
                exact ⟨rfl, F4.out.trans hf6 (by simp; omega)⟩
          | cons x r =>
            obtain ⟨e1, e2⟩ := nxt_one (x := x) (f := f) (n := n) (by rw [ht]; exact ⟨r, rfl⟩)
            obtain ⟨hx1, hx2⟩ := (told_mem f n x).1 (by rw [ht]; simp)
            refine (gnext_is HG3.out (HT.out.fr HF3.out (by simp)) x true e1 e2).mono ?_
            rintro e w4 ⟨rfl, hf4⟩
            have HP := Lib.hid (cnt_pos f n x hx1 hx2)
            have HM := Lib.hid (cnt_clr f x hx2 n)
            have H4 := Lib.hid (HG3.out.fr hf4 (by simp) (by simp) (by simp))
            have A4 := Lib.hid (HA3.out.fr hf4 (by simp))
            have F4 := Lib.hid (HF3.out.trans0 hf4)
            have M4 := Lib.hid fun W => gmark_yes W gp p g n f 7
            have X2 := Lib.hid hx2
            have hpp := HP.out
            have hcc := HC3.out
            clear e1 e2 ht hf4 HG3 HA3 HF3 hx2
            obtain ⟨cc, hcc2⟩ : ∃ c, cnt f n = c := ⟨_, rfl⟩
            rw [hcc2] at hpp hcc HM
            have HCC := Lib.hid hcc2
            clear hcc2 HP HC3
            go_wp2_with fail
            refine (M4.out _ H4.out x hx1 X2.out).mono ?_
            rintro e w5 ⟨rfl, h5, hf5⟩
            have A5 := A4.out.fr hf5 (by simp; omega)
            have c5 := (A5.cell x).trans (tms_get _ n x (by omega))
            rw [if_neg (by rw [X2.out]; simp)] at c5
            have z5 := A5.froz x
            have H5 := Lib.hid h5
            have B5 := Lib.hid A5
            have F5 := Lib.hid hf5
            clear h5 hf5 A5
            go_wp2
            go_roundw
            case rel =>
              refine ⟨k + 1, upd (f) x false, ?_, by go_num, H5.out.fr (S := [q]) ((Fr.refl _ _).set (.inl (by simp)) _) (by simp; omega) (by simp; omega) (by simp; omega), ?_, (F4.out.trans F5.out (by simp; omega)).set (.inr (by show w.heap.size ≤ q; omega)) _⟩
              · have := HM.out; rw [if_pos hx1] at this; omega
              · have := B5.out.set x (.int .i64 1); rw [tms_set _ _ _ hx1] at this; exact this
            case measure => simp [intOf]; omega
        | true =>
          have hZ : Z < n ∧ f Z = true := by
            rw [Bool.and_eq_true] at hm
            refine ⟨?_, hm.2⟩
            have := hm.1
            unfold inR at this
            simp at this
            omega
          obtain ⟨hZ1, hZ2⟩ := hZ
          have M := Lib.hid (gmark_yes wr gp p g n f 7 HG.out Z hZ1 hZ2)
          have HZ2 := Lib.hid hZ2
          clear hm hZ2
          go_wp2_with fail
          refine (M.out).mono ?_
          rintro e w2 ⟨rfl, h2', hf2⟩
          have hgl := HG.out.lt
          have A2 := HA.out.fr hf2 (by simp; omega)
          have hz := (hf2.cell (a := ⟨b, off + k, none⟩) hbw (by simp; have := Hb.out (by omega); omega)).trans hz
          have c2 := (A2.cell Z).trans (tms_get _ n Z (by omega))
          rw [if_neg (by rw [HZ2.out]; simp)] at c2
          have z2 := A2.froz Z
          have hfs : Fr [q] w2 (w2.setCell ⟨q, Z, none⟩ (.int .i64 1)) := (Fr.refl _ _).set (.inl (by simp)) _
          have HG3 := Lib.hid (h2'.fr hfs (by simp; omega) (by simp; omega) (by simp; omega))
          have HA3 := Lib.hid (show At (w2.setCell ⟨q, Z, none⟩ (.int .i64 1)) q 29 (tms (upd f Z false) n) by
            have := A2.set Z (.int .i64 1); rw [tms_set _ _ _ hZ1] at this; exact this)
          have HC3 := Lib.hid (show k + cnt (upd f Z false) n ≤ n by
            have := cnt_clr f Z HZ2.out n
            have := HC.out
            omega)
          replace HF3 := Lib.hid ((HF.out.trans hf2 (by simp; omega)).trans hfs (by simp; omega))
          clear M HG HA HC HF hfs h2' A2
          go_wp2_with fail
          clear c2 z2 hz hf2 HZ2
          cases ht : told (upd f Z false) n with
          | nil =>
            obtain ⟨e1, e2⟩ := nxt_nil ht
            refine (gnext_is HG3.out (HT.out.fr HF3.out (by simp)) 0 false e1 e2).mono ?_
            rintro e w4 ⟨rfl, hf4⟩
            have HN := Lib.hid (told_cnt (upd f Z false) n ht)
            have HZ := Lib.hid (cnt_zero (upd f Z false) n HN.out)
            have H4 := Lib.hid (HG3.out.fr hf4 (by simp) (by simp) (by simp))
            have A4 := Lib.hid (HA3.out.fr hf4 (by simp))
            have F4 := Lib.hid (HF3.out.trans0 hf4)
            clear e1 e2 ht hf4 HG3 HA3 HF3
            go_wp2_with fail
            go_loop [11] (fun i => ∃ j : Nat, j ≤ n ∧ i = .int .i64 j) (fun i => n - (intOf i).toNat)
            case atStart => exact ⟨0, by omega, rfl⟩
            case round =>
              obtain ⟨j, hj, rfl⟩ := hrel
              by_cases hjn : j < n
              · have cj := (A4.out.cell j).trans (tms_get _ n j (by omega))
                rw [if_pos ⟨hjn, HN.out j hjn⟩] at cj
                have O := Lib.hid (gold_is H4.out j false (by rw [Int.toNat_natCast, HN.out j hjn, Bool.and_false]))
                go_wp2_with (go_at_call 13; refine (O.out).mono ?_; rintro e w' ⟨rfl, rfl⟩)
                go_round
                case rel => exact ⟨j + 1, by omega, by go_num⟩
                case measure => simp [intOf]; omega
              · obtain rfl : j = n := by omega
                go_wp2_with fail
                refine (gleft_is H4.out 0 HZ.out).mono ?_
                rintro e w' ⟨rfl, rfl⟩
                go_wp2_with fail
                refine (gstart_no _ _ _ _ _ _ _ H4.out 7 (.inl (by decide))).mono ?_
                rintro e w' ⟨rfl, rfl⟩
                go_wp2_with fail
                refine (gstart_yes _ _ _ _ _ _ _ H4.out 8 (by decide) HZ.out).mono ?_
                rintro e w6 ⟨rfl, h6, hf6⟩
                go_wp2_with fail
                go_ret
                exact ⟨rfl, F4.out.trans hf6 (by simp; omega)⟩
          | cons x r =>
            obtain ⟨e1, e2⟩ := nxt_one (x := x) (f := (upd f Z false)) (n := n) (by rw [ht]; exact ⟨r, rfl⟩)
            obtain ⟨hx1, hx2⟩ := (told_mem (upd f Z false) n x).1 (by rw [ht]; simp)
            refine (gnext_is HG3.out (HT.out.fr HF3.out (by simp)) x true e1 e2).mono ?_
            rintro e w4 ⟨rfl, hf4⟩
            have HP := Lib.hid (cnt_pos (upd f Z false) n x hx1 hx2)
            have HM := Lib.hid (cnt_clr (upd f Z false) x hx2 n)
            have H4 := Lib.hid (HG3.out.fr hf4 (by simp) (by simp) (by simp))
            have A4 := Lib.hid (HA3.out.fr hf4 (by simp))
            have F4 := Lib.hid (HF3.out.trans0 hf4)
            have M4 := Lib.hid fun W => gmark_yes W gp p g n (upd f Z false) 7
            have X2 := Lib.hid hx2
            have hpp := HP.out
            have hcc := HC3.out
            clear e1 e2 ht hf4 HG3 HA3 HF3 hx2
            obtain ⟨cc, hcc2⟩ : ∃ c, cnt (upd f Z false) n = c := ⟨_, rfl⟩
            rw [hcc2] at hpp hcc HM
            have HCC := Lib.hid hcc2
            clear hcc2 HP HC3
            go_wp2_with fail
            refine (M4.out _ H4.out x hx1 X2.out).mono ?_
            rintro e w5 ⟨rfl, h5, hf5⟩
            have A5 := A4.out.fr hf5 (by simp; omega)
            have c5 := (A5.cell x).trans (tms_get _ n x (by omega))
            rw [if_neg (by rw [X2.out]; simp)] at c5
            have z5 := A5.froz x
            have H5 := Lib.hid h5
            have B5 := Lib.hid A5
            have F5 := Lib.hid hf5
            clear h5 hf5 A5
            go_wp2
            go_roundw
            case rel =>
              refine ⟨k + 1, upd ((upd f Z false)) x false, ?_, by go_num, H5.out.fr (S := [q]) ((Fr.refl _ _).set (.inl (by simp)) _) (by simp; omega) (by simp; omega) (by simp; omega), ?_, (F4.out.trans F5.out (by simp; omega)).set (.inr (by show w.heap.size ≤ q; omega)) _⟩
              · have := HM.out; rw [if_pos hx1] at this; omega
              · have := B5.out.set x (.int .i64 1); rw [tms_set _ _ _ hx1] at this; exact this
            case measure => simp [intOf]; omega
      · have HG3 := HG
        have HA3 := HA
        have HC3 := HC
        have HF3 := HF
        clear HG HA HC HF hf
        go_wp2_with fail
        cases ht : told f n with
        | nil =>
          obtain ⟨e1, e2⟩ := nxt_nil ht
          refine (gnext_is HG3.out (HT.out.fr HF3.out (by simp)) 0 false e1 e2).mono ?_
          rintro e w4 ⟨rfl, hf4⟩
          have HN := Lib.hid (told_cnt f n ht)
          have HZ := Lib.hid (cnt_zero f n HN.out)
          have H4 := Lib.hid (HG3.out.fr hf4 (by simp) (by simp) (by simp))
          have A4 := Lib.hid (HA3.out.fr hf4 (by simp))
          have F4 := Lib.hid (HF3.out.trans0 hf4)
          clear e1 e2 ht hf4 HG3 HA3 HF3
          go_wp2_with fail
          go_loop [11] (fun i => ∃ j : Nat, j ≤ n ∧ i = .int .i64 j) (fun i => n - (intOf i).toNat)
          case atStart => exact ⟨0, by omega, rfl⟩
          case round =>
            obtain ⟨j, hj, rfl⟩ := hrel
            by_cases hjn : j < n
            · have cj := (A4.out.cell j).trans (tms_get _ n j (by omega))
              rw [if_pos ⟨hjn, HN.out j hjn⟩] at cj
              have O := Lib.hid (gold_is H4.out j false (by rw [Int.toNat_natCast, HN.out j hjn, Bool.and_false]))
              go_wp2_with (go_at_call 13; refine (O.out).mono ?_; rintro e w' ⟨rfl, rfl⟩)
              go_round
              case rel => exact ⟨j + 1, by omega, by go_num⟩
              case measure => simp [intOf]; omega
            · obtain rfl : j = n := by omega
              go_wp2_with fail
              refine (gleft_is H4.out 0 HZ.out).mono ?_
              rintro e w' ⟨rfl, rfl⟩
              go_wp2_with fail
              refine (gstart_no _ _ _ _ _ _ _ H4.out 7 (.inl (by decide))).mono ?_
              rintro e w' ⟨rfl, rfl⟩
              go_wp2_with fail
              refine (gstart_yes _ _ _ _ _ _ _ H4.out 8 (by decide) HZ.out).mono ?_
              rintro e w6 ⟨rfl, h6, hf6⟩
              go_wp2_with fail
              go_ret
              exact ⟨rfl, F4.out.trans hf6 (by simp; omega)⟩
        | cons x r =>
          obtain ⟨e1, e2⟩ := nxt_one (x := x) (f := f) (n := n) (by rw [ht]; exact ⟨r, rfl⟩)
          obtain ⟨hx1, hx2⟩ := (told_mem f n x).1 (by rw [ht]; simp)
          refine (gnext_is HG3.out (HT.out.fr HF3.out (by simp)) x true e1 e2).mono ?_
          rintro e w4 ⟨rfl, hf4⟩
          have HP := Lib.hid (cnt_pos f n x hx1 hx2)
          have HM := Lib.hid (cnt_clr f x hx2 n)
          have H4 := Lib.hid (HG3.out.fr hf4 (by simp) (by simp) (by simp))
          have A4 := Lib.hid (HA3.out.fr hf4 (by simp))
          have F4 := Lib.hid (HF3.out.trans0 hf4)
          have M4 := Lib.hid fun W => gmark_yes W gp p g n f 7
          have X2 := Lib.hid hx2
          have hpp := HP.out
          have hcc := HC3.out
          clear e1 e2 ht hf4 HG3 HA3 HF3 hx2
          obtain ⟨cc, hcc2⟩ : ∃ c, cnt f n = c := ⟨_, rfl⟩
          rw [hcc2] at hpp hcc HM
          have HCC := Lib.hid hcc2
          clear hcc2 HP HC3
          go_wp2_with fail
          refine (M4.out _ H4.out x hx1 X2.out).mono ?_
          rintro e w5 ⟨rfl, h5, hf5⟩
          have A5 := A4.out.fr hf5 (by simp; omega)
          have c5 := (A5.cell x).trans (tms_get _ n x (by omega))
          rw [if_neg (by rw [X2.out]; simp)] at c5
          have z5 := A5.froz x
          have H5 := Lib.hid h5
          have B5 := Lib.hid A5
          have F5 := Lib.hid hf5
          clear h5 hf5 A5
          go_wp2
          go_roundw
          case rel =>
            refine ⟨k + 1, upd (f) x false, ?_, by go_num, H5.out.fr (S := [q]) ((Fr.refl _ _).set (.inl (by simp)) _) (by simp; omega) (by simp; omega) (by simp; omega), ?_, (F4.out.trans F5.out (by simp; omega)).set (.inr (by show w.heap.size ≤ q; omega)) _⟩
            · have := HM.out; rw [if_pos hx1] at this; omega
            · have := B5.out.set x (.int .i64 1); rw [tms_set _ _ _ hx1] at this; exact this
          case measure => simp [intOf]; omega
    · have HG3 := HG
      have HA3 := HA
      have HC3 := HC
      have HF3 := HF
      clear HG HA HC HF hf
      go_wp2_with fail
      cases ht : told f n with
      | nil =>
        obtain ⟨e1, e2⟩ := nxt_nil ht
        refine (gnext_is HG3.out (HT.out.fr HF3.out (by simp)) 0 false e1 e2).mono ?_
        rintro e w4 ⟨rfl, hf4⟩
        have HN := Lib.hid (told_cnt f n ht)
        have HZ := Lib.hid (cnt_zero f n HN.out)
        have H4 := Lib.hid (HG3.out.fr hf4 (by simp) (by simp) (by simp))
        have A4 := Lib.hid (HA3.out.fr hf4 (by simp))
        have F4 := Lib.hid (HF3.out.trans0 hf4)
        clear e1 e2 ht hf4 HG3 HA3 HF3
        go_wp2_with fail
        go_loop [11] (fun i => ∃ j : Nat, j ≤ n ∧ i = .int .i64 j) (fun i => n - (intOf i).toNat)
        case atStart => exact ⟨0, by omega, rfl⟩
        case round =>
          obtain ⟨j, hj, rfl⟩ := hrel
          by_cases hjn : j < n
          · have cj := (A4.out.cell j).trans (tms_get _ n j (by omega))
            rw [if_pos ⟨hjn, HN.out j hjn⟩] at cj
            have O := Lib.hid (gold_is H4.out j false (by rw [Int.toNat_natCast, HN.out j hjn, Bool.and_false]))
            go_wp2_with (go_at_call 13; refine (O.out).mono ?_; rintro e w' ⟨rfl, rfl⟩)
            go_round
            case rel => exact ⟨j + 1, by omega, by go_num⟩
            case measure => simp [intOf]; omega
          · obtain rfl : j = n := by omega
            go_wp2_with fail
            refine (gleft_is H4.out 0 HZ.out).mono ?_
            rintro e w' ⟨rfl, rfl⟩
            go_wp2_with fail
            refine (gstart_no _ _ _ _ _ _ _ H4.out 7 (.inl (by decide))).mono ?_
            rintro e w' ⟨rfl, rfl⟩
            go_wp2_with fail
            refine (gstart_yes _ _ _ _ _ _ _ H4.out 8 (by decide) HZ.out).mono ?_
            rintro e w6 ⟨rfl, h6, hf6⟩
            go_wp2_with fail
            go_ret
            exact ⟨rfl, F4.out.trans hf6 (by simp; omega)⟩
      | cons x r =>
        obtain ⟨e1, e2⟩ := nxt_one (x := x) (f := f) (n := n) (by rw [ht]; exact ⟨r, rfl⟩)
        obtain ⟨hx1, hx2⟩ := (told_mem f n x).1 (by rw [ht]; simp)
        refine (gnext_is HG3.out (HT.out.fr HF3.out (by simp)) x true e1 e2).mono ?_
        rintro e w4 ⟨rfl, hf4⟩
        have HP := Lib.hid (cnt_pos f n x hx1 hx2)
        have HM := Lib.hid (cnt_clr f x hx2 n)
        have H4 := Lib.hid (HG3.out.fr hf4 (by simp) (by simp) (by simp))
        have A4 := Lib.hid (HA3.out.fr hf4 (by simp))
        have F4 := Lib.hid (HF3.out.trans0 hf4)
        have M4 := Lib.hid fun W => gmark_yes W gp p g n f 7
        have X2 := Lib.hid hx2
        have hpp := HP.out
        have hcc := HC3.out
        clear e1 e2 ht hf4 HG3 HA3 HF3 hx2
        obtain ⟨cc, hcc2⟩ : ∃ c, cnt f n = c := ⟨_, rfl⟩
        rw [hcc2] at hpp hcc HM
        have HCC := Lib.hid hcc2
        clear hcc2 HP HC3
        go_wp2_with fail
        refine (M4.out _ H4.out x hx1 X2.out).mono ?_
        rintro e w5 ⟨rfl, h5, hf5⟩
        have A5 := A4.out.fr hf5 (by simp; omega)
        have c5 := (A5.cell x).trans (tms_get _ n x (by omega))
        rw [if_neg (by rw [X2.out]; simp)] at c5
        have z5 := A5.froz x
        have H5 := Lib.hid h5
        have B5 := Lib.hid A5
        have F5 := Lib.hid hf5
        clear h5 hf5 A5
        go_wp2
        go_roundw
        case rel =>
          refine ⟨k + 1, upd (f) x false, ?_, by go_num, H5.out.fr (S := [q]) ((Fr.refl _ _).set (.inl (by simp)) _) (by simp; omega) (by simp; omega) (by simp; omega), ?_, (F4.out.trans F5.out (by simp; omega)).set (.inr (by show w.heap.size ≤ q; omega)) _⟩
          · have := HM.out; rw [if_pos hx1] at this; omega
          · have := B5.out.set x (.int .i64 1); rw [tms_set _ _ _ hx1] at this; exact this
        case measure => simp [intOf]; omega
theorem walk (a0 : Int) (w0 : (Lit.int .u8 a0).wf = true) (a1 : Option Addr) (len1 cap1 : Nat) (z1 : List Int) (w : World) (w1 : Ints .u8 w a1 len1 z1) (hT : Tab w) :
    Calls Tryd.prog 3 #[.int .u8 a0, .slice a1 len1 cap1] w fun e w' => e = .returned (.bool true) ∧ Fr [] w w' := by
  have hb0 := bounds_u8 w0
  obtain ⟨h1, h2, h3, h4⟩ := w1
  rcases h4 with h4 | ⟨b, off, h5, h6, h7⟩
  · exact walk0 (a0 % 100).toNat (by omega) a0 hb0.1 hb0.2 (by omega) a1 0 0 len1 cap1 z1 w hT (.inl h4) h1 h2 h3 (fun h => by omega) (fun i hi => by omega)
  · exact walk0 (a0 % 100).toNat (by omega) a0 hb0.1 hb0.2 (by omega) a1 b off len1 cap1 z1 w hT (.inr h5) h1 h2 h3 (fun _ => h6) h7
theorem laidOut : laidOutB Tryd.prog = true := by kernel_rfl
set_option maxRecDepth 100000 in
theorem lifted (os : Os) (started : os.Started) (H : Type) (enc : TypeId × Value → H) :
    ReturnsInHanded {} Tryd.checked os 3 .any (fun w args => (Rows.barrierOnceSpec.pre enc Tryd.prog Tryd.f3 [] false w args ∧ laidMetH Tryd.prog laidL w) ∧ sizedMet enc Tryd.prog Tryd.f3 (OpenSpec.ofChange Rows.barrierOnceSpec) false w args) (Rows.barrierOnceSpec.post enc Tryd.prog Tryd.f3 false true false false) := by
  refine returnsInHanded_of_change_and (C := Tryd.checked) (X := fun w _ => laidMetH Tryd.prog laidL w) (fun _ _ _ hh h => h.of_heap hh) own started (by kernel_rfl) Tryd.func3
    (ChangeSpec.witness_at (enc := enc) (C := Tryd.checked) (os := os) (X := fun w _ => laidMetH Tryd.prog laidL w) false (laidWorld os) #[.int .u8 0, .slice none 0 0] 8 rfl (by kernel_rfl) (by kernel_rfl) (by kernel_rfl) (by kernel_rfl) (by kernel_rfl) (laidWorld_met os _)) ?_
  intro W base args ds gs before hval0 hW _ _ hL _
  have hT := tab_of_laid hL
  have hval : ∀ (j : Nat) t v, Tryd.f3.params[j]? = some t → args[j]? = some v → Value.okWide Tryd.prog W .any base t v := hval0
  have hW' := hW
  obtain ⟨p, q, hA0, hV, rfl, hfz, hnd⟩ := hW
  have hA : DataW.TrodAll enc Tryd.prog W 0 (fun _ => true) true Tryd.f3.params.toList args.toList ds p := hA0
  rw [Tryd.params3] at hA hval
  obtain ⟨v0, vs0, d0, ds0, p0, q0, hargs, rfl, rfl, h0, r0⟩ := trodAll_cons hA
  obtain ⟨v1, vs1, d1, ds1, p1, q1, rfl, rfl, rfl, h1, r1⟩ := trodAll_cons r0
  obtain ⟨rfl, rfl, rfl⟩ := trodAll_nil r1
  obtain rfl : args = #[v0, v1] := by cases args; simp_all
  obtain ⟨rfl, rfl⟩ := trodVars_none hV
  obtain ⟨a0, rfl, rfl, rfl, w0⟩ := open_int Tryd.underlying5 (hval 0 5 v0 rfl rfl) h0
  obtain ⟨a1, len1, cap1, rfl⟩ := okWide_slice Tryd.underlying22 (hval 1 22 v1 rfl rfl)
  have k1 := h1
  have lt1 : ∀ x ∈ p1, x.block < W.heap.size := by obtain ⟨m, hm⟩ := k1; exact DataW.trod_lt m _ _ _ hm
  obtain ⟨z1, w1⟩ : ∃ zs, Ints .u8 W a1 len1 zs := by
    obtain ⟨fuel, hf⟩ := h1
    rcases open_ints Tryd.underlying22 Tryd.underlying5 (by kernel_rfl) hf with ⟨hcs, _⟩ | ⟨x, l, c, zs, hcs, _, hl, hm, hz, _, hcell, hwz⟩
    · simp [Value.cells] at hcs
      obtain ⟨rfl, rfl, rfl⟩ := hcs
      exact ⟨[], Ints.nil _⟩
    · simp [Value.cells] at hcs
      obtain ⟨rfl, rfl, rfl⟩ := hcs
      exact ⟨zs.take len1, Ints.of hl hm (by simpa using hz) hcell hwz⟩
  clear hA0 hval0
  refine (walk a0 w0 a1 len1 cap1 z1 W w1 hT).mono fun e W' ⟨he, hg⟩ => ?_
  subst he
  have bel := hg.below
  exact ⟨_, rfl, _, _, _, [], _, [], hW', trodAll_mk1 (shut_bool Tryd.underlying4 _), (trodAll_cons_mk (shut_int Tryd.underlying5 w0) (trodAll_cons_mk (Below.trod laidOut (by kernel_rfl) (of_decide_eq_true (by kernel_rfl)) k1 bel lt1) trodAll_mk0)), rfl, bel.frame _, fun h => by cases h⟩
theorem over : Rows.barrierOnceRow.holds Tryd.pinned (OpenSpec.ofChange Rows.barrierOnceSpec) :=
  OpenClaim.holds_of_wide 3 Tryd.f3 rfl rfl rfl rfl rfl rfl rfl ⟨rfl, rfl, rfl, rfl, rfl⟩ rfl rfl rfl rfl rfl (by kernel_rfl) Tryd.func3 (by kernel_rfl)
    (of_decide_eq_true (by kernel_rfl)) (by unfold Func.isWrapper; first | (rw [if_pos (by decide +kernel)]; kernel_rfl) | (rw [if_neg (by decide +kernel)]; exact ⟨rfl, rfl⟩))
    (fun os started H enc _ => lifted os started H enc)
set_option maxRecDepth 100000 in
/-- The card, tied. -/
theorem proved : Rows.BarrierOnceCardSaid :=
  Claim7.holds_tied_plain_at .later [] [.data] true (true, "e7793fe97485d756a82b701d73278ca7f641ab8b64b482d8997c6421f31e14ea") false
    over (fun _ h => by cases h) (by kernel_rfl) (fun _ h => by cases h) barrierOnce_row_tie rfl ⟨rfl, rfl⟩ (by kernel_rfl) rfl
    (fun f fn hf hfn => by
      obtain rfl : f = 3 := Option.some.inj ((show Tryd.prog.funcNamed "fallow/fallowlaw18.BarrierOnce" = some 3 by kernel_rfl).symm.trans hf) |>.symm
      obtain rfl : fn = Tryd.f3 := (Option.some.inj (Tryd.func3.symm.trans hfn)).symm
      exact ⟨by kernel_rfl, fun j t ht => by
        have hm : t ∈ Tryd.f3.params.toList := by simpa using Array.mem_of_getElem? ht
        have hall : (Tryd.f3.params.toList.all fun u => !Tryd.prog.wantsStandIn u) = true := by kernel_rfl
        exact (show Tryd.prog.wantsStandIn t = false by simpa using List.all_eq_true.1 hall t hm)⟩)
    (by kernel_rfl)
end barrierOnce
end Go.Proofs.YtechmgnoaillmaaDoor
