/-
  PagesPlays: a pool does what the reference says, step by step. No condition.
-/

import Derived.Test.YtnbdjnhdneboiaaWorks
import Derived.Test.YtnbdjnhdneboiaaRef
import Derived.Deep.RegionHeld3
set_option linter.unusedVariables false
namespace Go.Proofs.Ytnbdjnhdneboiaa
open Go.ChangeShapes Go.WideShapes Go.ChangeAt Go.RowKit
namespace pagesPlays
/-- Put of one page, whatever comes of it. -/
theorem pput_ever (w : World) (pp p g n : Nat) (f : Nat → Bool) (h : Pl w pp p g n f) (a : Nat) :
    Calls Try.prog 9 #[.pointer (some ⟨pp, 0, none⟩), .int .i64 a, .int .i64 1] w fun e w' => ∃ b f', e = .returned (.bool b) ∧ Pl w' pp p g n f' ∧ Fr [g] w w' := by
  cases hk : okPut f n a 1
  · exact (pput_no w pp p g n f h a 1 (by omega) hk).mono fun e w' ⟨he, m, hm⟩ => ⟨false, f, he, by rw [hm]; exact h.drewN m, by rw [hm]; exact (Fr.refl _ _).drewN _⟩
  · exact (pput_yes w pp p g n f h a 1 hk).mono fun e w' ⟨he, h1, h2⟩ => ⟨true, _, he, h1, h2⟩
def Q1 : Nat → Value → Prop := fun _ => QI .i64
theorem walk_bad (a0 : Int) (a1 : Option Addr) (len1 cap1 : Nat) (w : World) (h : a0 < 0 ∨ 1024 < a0) :
    Calls Try.prog 5 #[.int .i64 a0, .slice a1 len1 cap1] w fun e w' => e = .returned (.bool true) ∧ Fr [] w w' := by
  have C1 := Lib.hid fun w => pnew_bad a0 w h
  have C2 := Lib.hid fun w => rnew_no a0 w h
  clear h
  go_enter Try.func5, Try.ntmps5
  go_wp2_with (first | (go_at_call 8; refine (C1.out _).mono ?_; rintro e w' ⟨rfl, rfl⟩) | (go_at_call 14; refine (C2.out _).mono ?_; rintro e w' ⟨rfl, rfl⟩))
  by_cases hl : 0 < len1
  all_goals
    refine wp_loop_rounds 1 ?_
    rw [rounds_succ]
    go_wp2
    refine wp_loop_rounds 3 ?_
    repeat any_goals (rw [rounds_succ]; go_wp2_with (first | (go_at_call 11; refine (free_nil _ _).mono ?_; rintro e w' ⟨rfl, rfl⟩) | (go_at_call 7; refine (works_any _).mono ?_; rintro e w2 ⟨rfl, hf2⟩)))
    go_ret
    exact ⟨rfl, hf2⟩
set_option maxHeartbeats 4000000 in
set_option maxRecDepth 100000 in
theorem walk_ok (n : Nat) (hn : n ≤ 1024) (a1 : Option Addr) (len1 cap1 : Nat) (w : World) (w1 : Recs w a1 len1 4 Q1) :
    Calls Try.prog 5 #[.int .i64 n, .slice a1 len1 cap1] w fun e w' => e = .returned (.bool true) ∧ Fr [] w w' := by
  obtain ⟨hlen, hrec⟩ := w1
  have Hrec := Lib.hid hrec
  clear hrec
  go_enter Try.func5, Try.ntmps5
  go_wp2_with (first | (go_at_call 8; refine (pnew_any n _ hn).mono ?_; rintro e w2 ⟨pp, p, g, rfl, h2, hpp, hp, hg, hf2⟩) | (go_at_call 14; refine (rnew_yes n _ hn).mono ?_; rintro e w3 ⟨q, rfl, h3, hq, hf3⟩))
  have hl2 := h2.1.lt
  have hl3 := h2.2.1.lt
  have hs2 := hf2.size
  have H2 := Lib.hid (h2.fr hf3 (by simp) (by simp) (by simp))
  have H3 := Lib.hid h3
  have hf4 := hf2.trans0 hf3
  have hqn : q ≠ pp ∧ q ≠ p ∧ q ≠ g := by omega
  have hqw : w.heap.size ≤ q := by omega
  clear h2 h3 hf2 hf3 hl2 hl3 hs2 hq
  go_loopw [5, 8] (fun pv i wr => ∃ (k pp p g : Nat) (f : Nat → Bool), k ≤ 50 ∧ k ≤ len1 ∧ i = .int .i64 k ∧ pv = .pointer (some ⟨pp, 0, none⟩) ∧ Pl wr pp p g n f ∧ Rf wr q n f ∧ Fr [] w wr ∧ (w.heap.size ≤ pp ∧ w.heap.size ≤ p ∧ w.heap.size ≤ g) ∧ (q ≠ pp ∧ q ≠ p ∧ q ≠ g)) (fun _ i _ => 50 - (intOf i).toNat)
  case atStart => exact ⟨0, pp, p, g, _, by omega, by omega, rfl, rfl, H2.out, H3.out, hf4, ⟨hpp, hp, hg⟩, hqn⟩
  case round =>
    clear hqn hpp hp hg H2 H3 hf4
    obtain ⟨k, pp, p, g, f, hk, hkl, rfl, rfl, hP, hR, hf, ⟨hpp, hp, hg⟩, hqn⟩ := hrel
    have HP := Lib.hid hP
    have HR := Lib.hid hR
    clear hP hR
    by_cases hlt : k < len1 ∧ k < 50
    · obtain ⟨hl1, hl5⟩ := hlt
      obtain ⟨b, off, rfl, hb, hcells⟩ := Hrec.out.resolve_left (by omega)
      obtain ⟨v0, hc0, z0, rfl, hw0⟩ := hcells k hl1 0 (by omega)
      obtain ⟨v1, hc1, z1, rfl, hw1⟩ := hcells k hl1 1 (by omega)
      obtain ⟨v2, hc2, z2, rfl, hw2⟩ := hcells k hl1 2 (by omega)
      obtain ⟨v3, hc3, z3, rfl, hw3⟩ := hcells k hl1 3 (by omega)
      replace hc0 := (hf.cell (a := ⟨b, _, none⟩) hb (by simp)).trans hc0
      replace hc1 := (hf.cell (a := ⟨b, _, none⟩) hb (by simp)).trans hc1
      replace hc2 := (hf.cell (a := ⟨b, _, none⟩) hb (by simp)).trans hc2
      replace hc3 := (hf.cell (a := ⟨b, _, none⟩) hb (by simp)).trans hc3
      have bw0 := bounds_i64 hw0
      have bw1 := bounds_i64 hw1
      have bw2 := bounds_i64 hw2
      have bw3 := bounds_i64 hw3
      simp only [Nat.add_zero, ← Nat.add_assoc] at hc0 hc1 hc2 hc3
      clear hcells hw0 hw1 hw2 hw3
      obtain ⟨X, hX⟩ : ∃ X, X = wr.alloc (.cells #[.int .i64 z0, .int .i64 z1, .int .i64 z2, .int .i64 z3] 41) := ⟨_, rfl⟩
      have hxa : At X wr.heap.size 41 #[.int .i64 z0, .int .i64 z1, .int .i64 z2, .int .i64 z3] := by rw [hX]; exact At.new _ _ _
      have hxf : Fr [] wr X := by rw [hX]; exact (Fr.refl _ _).alloc _
      have HX := Lib.hid hX
      have hPX := Lib.hid (HP.out.fr hxf (by simp) (by simp) (by simp))
      have hRX : Hid (Rf X q n f) := Lib.hid ⟨HR.out.1.fr hxf (by simp), HR.out.2⟩
      have hfX := hf.trans0 hxf
      have HXA := Lib.hid hxa
      have hpls := HP.out.1.lt
      have hplt := HP.out.2.1.lt
      have hql := HR.out.1.lt
      clear hX hxa hxf
      go_wp2_with fail
      all_goals rw [← HX.out]
      · rcases findI_range f n z2 z3 with hV | ⟨a, hV, hr1, ha1, han, har, _, _⟩
        · have C1 := Lib.hid (take_no X pp p g n f hPX.out z2 z3 (by omega) hV)
          have C2 := Lib.hid (rtake_no X q n f hRX.out z2 z3 (by omega) hV)
          have c2 := HXA.out.cell 2
          have c3 := HXA.out.cell 3
          simp only [List.getElem?_toArray, List.getElem?_cons_zero, List.getElem?_cons_succ] at c2 c3
          refine (C1.out).mono ?_
          rintro e w5 ⟨rfl, rfl⟩
          go_wp2_with fail
          refine (C2.out).mono ?_
          rintro e w5 ⟨rfl, rfl⟩
          go_wp2_with (first | (go_at_call 12; refine (pcount_any _ pp p g n f hPX.out).mono ?_; rintro e w' ⟨rfl, rfl⟩) | (go_at_call 19; refine (rcount_any _ q n f hRX.out).mono ?_; rintro e w' ⟨rfl, rfl⟩))
          go_roundw
          case rel => exact ⟨k + 1, pp, p, g, f, by omega, by omega, by go_num, rfl, hPX.out, hRX.out, hfX, ⟨hpp, hp, hg⟩, hqn⟩
          case measure => simp [intOf]; omega
        · obtain ⟨R, rfl⟩ := Int.eq_ofNat_of_zero_le (show 0 ≤ z2 by omega)
          have C1 := Lib.hid (take_yes X pp p g n f hPX.out R a z3 (by omega) hV (by omega))
          have C2 := Lib.hid fun W h => rtake_yes W q n f h R a z3 (by omega) hV (by omega)
          refine (C1.out).mono ?_
          rintro e w5 ⟨rfl, h5, hf5⟩
          have hx5 := HXA.out.fr hf5 (by simp; omega)
          have c2 := hx5.cell 2
          have c3 := hx5.cell 3
          simp only [List.getElem?_toArray, List.getElem?_cons_zero, List.getElem?_cons_succ] at c2 c3
          have H5 := Lib.hid h5
          have HR5 : Hid (Rf w5 q n f) := Lib.hid ⟨hRX.out.1.fr hf5 (by simp; omega), hRX.out.2⟩
          have hf5w : Fr [] w w5 := hfX.trans hf5 (by simp; omega)
          clear h5 hf5 hx5
          go_wp2_with fail
          refine (C2.out _ HR5.out).mono ?_
          rintro e w6 ⟨rfl, h6, hf6⟩
          have H6 := Lib.hid (H5.out.fr hf6 (by simp; omega) (by simp; omega) (by simp; omega))
          have HR6 := Lib.hid h6
          have hf6w : Fr [] w w6 := hf5w.trans hf6 (by simp; omega)
          clear h6 hf6
          go_wp2_with (first | (go_at_call 12; refine (pcount_any _ pp p g n _ H6.out).mono ?_; rintro e w' ⟨rfl, rfl⟩) | (go_at_call 19; refine (rcount_any _ q n _ HR6.out).mono ?_; rintro e w' ⟨rfl, rfl⟩))
          go_roundw
          case rel => exact ⟨k + 1, pp, p, g, _, by omega, by omega, by go_num, rfl, H6.out, HR6.out, hf6w, ⟨hpp, hp, hg⟩, hqn⟩
          case measure => simp [intOf]; omega
      · have c1 := HXA.out.cell 1
        have c2 := HXA.out.cell 2
        simp only [List.getElem?_toArray, List.getElem?_cons_zero, List.getElem?_cons_succ] at c1 c2
        cases hok : okPut f n z1 z2
        · have C1 := Lib.hid fun (W : World) (hW : W.heap = X.heap) => pput_no W pp p g n f (by unfold Pl Tg At at *; rw [hW]; exact hPX.out) z1 z2 (by omega) hok
          have C2 := Lib.hid fun (W : World) (hW : W.heap = X.heap) => rput_no W q n f (by unfold Rf At at *; rw [hW]; exact hRX.out) z1 z2 (by omega) hok
          clear hok
          go_region_held3 (fun w' => w'.cell? ⟨wr.heap.size, 1, none⟩ = some (.int .i64 z1) ∧ w'.cell? ⟨wr.heap.size, 2, none⟩ = some (.int .i64 z2)) (go_keep) (first | (go_at_call 9; refine Calls.mono (C1.out _ (by rfl)) ?_; rintro e w5 ⟨rfl, m5, rfl⟩) | (go_at_call 16; refine Calls.mono (C2.out _ (by rfl)) ?_; rintro e w6 ⟨rfl, rfl⟩))
          go_wp2_with (first | (go_at_call 12; refine (pcount_any _ pp p g n f (hPX.out.heap (by rfl))).mono ?_; rintro e w' ⟨rfl, rfl⟩) | (go_at_call 19; refine (rcount_any _ q n f (hRX.out.heap (by rfl))).mono ?_; rintro e w' ⟨rfl, rfl⟩))
          go_roundw
          case rel => exact ⟨k + 1, pp, p, g, f, by omega, by omega, by go_num, rfl, hPX.out.heap rfl, hRX.out.heap rfl, hfX.hd' (by rfl) (by rfl) (by rfl) (by rfl), ⟨hpp, hp, hg⟩, hqn⟩
          case measure => simp [intOf]; omega
        · unfold okPut at hok
          simp only [Bool.and_eq_true, decide_eq_true_eq] at hok
          obtain ⟨ho1, ho2, ho3, ho4⟩ := hok
          obtain ⟨A, rfl⟩ := Int.eq_ofNat_of_zero_le ho1
          obtain ⟨R, rfl⟩ := Int.eq_ofNat_of_zero_le (show 0 ≤ z2 by omega)
          have hok : okPut f n A R = true := by
            unfold okPut
            simp only [Bool.and_eq_true, decide_eq_true_eq]
            exact ⟨ho1, ho2, ho3, ho4⟩
          have C1 := Lib.hid fun (W : World) (hW : W.heap = X.heap) => pput_yes W pp p g n f (by unfold Pl Tg At at *; rw [hW]; exact hPX.out) A R hok
          have C2 := Lib.hid fun (W : World) (hW : Rf W q n f) => rput_yes W q n f hW A R hok
          clear hok ho1 ho2 ho3 ho4
          go_region_held3 (fun w' => w'.cell? ⟨wr.heap.size, 1, none⟩ = some (.int .i64 A) ∧ w'.cell? ⟨wr.heap.size, 2, none⟩ = some (.int .i64 R)) (first | exact d5 | exact d6 | go_keep) (first | (go_at_call 9; refine Calls.mono (C1.out _ (by rfl)) ?_; rintro e w5 ⟨rfl, h5, hf5⟩; have hx5 := HXA.out.frh hf5 (by rfl) (by simp; omega); have d5 := And.intro (hx5.cell 1) (hx5.cell 2); have H5 := Lib.hid h5; have HR5 : Hid (Rf w5 q n f) := Lib.hid ⟨hRX.out.1.frh hf5 (by rfl) (by simp; omega), hRX.out.2⟩; have HF5 : Hid (Fr [] w w5) := Lib.hid (Fr.trans (hfX.hd' (by rfl) (by rfl) (by rfl) (by rfl)) hf5 (by simp; omega)); clear h5 hf5) | (go_at_call 16; refine Calls.mono (C2.out _ (HR5.out.heap (by rfl))) ?_; rintro e w6 ⟨rfl, h6, hf6⟩; have d6 := And.intro ((hx5.frh hf6 (by rfl) (by simp; omega)).cell 1) ((hx5.frh hf6 (by rfl) (by simp; omega)).cell 2); have H6 := Lib.hid h6; have HP6 : Hid (Pl w6 pp p g n _) := Lib.hid ((H5.out.heap (w' := _) (by rfl)).fr hf6 (by simp; omega) (by simp; omega) (by simp; omega)); have HF6 : Hid (Fr [] w w6) := Lib.hid (Fr.trans (HF5.out.hd' (by rfl) (by rfl) (by rfl) (by rfl)) hf6 (by simp; omega)); clear h6 hf6))
          go_wp2_with (first | (go_at_call 12; refine (pcount_any _ pp p g n _ (HP6.out.heap (by rfl))).mono ?_; rintro e w' ⟨rfl, rfl⟩) | (go_at_call 19; refine (rcount_any _ q n _ (H6.out.heap (by rfl))).mono ?_; rintro e w' ⟨rfl, rfl⟩))
          go_roundw
          case rel => exact ⟨k + 1, pp, p, g, _, by omega, by omega, by go_num, rfl, HP6.out.heap rfl, H6.out.heap rfl, HF6.out.hd' (by rfl) (by rfl) (by rfl) (by rfl), ⟨hpp, hp, hg⟩, hqn⟩
          case measure => simp [intOf]; omega
      · have C1 := Lib.hid (rfind_any X q n f hRX.out z2 z3 (by omega))
        have C2 := Lib.hid (fits_any X pp p g n f hPX.out z2 z3 (by omega))
        have c2 := HXA.out.cell 2
        have c3 := HXA.out.cell 3
        simp only [List.getElem?_toArray, List.getElem?_cons_zero, List.getElem?_cons_succ] at c2 c3
        refine (C1.out).mono ?_
        rintro e w5 ⟨rfl, rfl⟩
        have hii : isI (findI f n z2 z3) = decide (0 ≤ findI f n z2 z3) := rfl
        rw [← hii] at C2
        clear hii
        go_wp2_with (first | (go_at_call 13; refine (C2.out).mono ?_; rintro e w' ⟨rfl, rfl⟩) | (go_at_call 12; refine (pcount_any _ pp p g n f hPX.out).mono ?_; rintro e w' ⟨rfl, rfl⟩) | (go_at_call 19; refine (rcount_any _ q n f hRX.out).mono ?_; rintro e w' ⟨rfl, rfl⟩))
        go_roundw
        case rel => exact ⟨k + 1, pp, p, g, f, by omega, by omega, by go_num, rfl, hPX.out, hRX.out, hfX, ⟨hpp, hp, hg⟩, hqn⟩
        case measure => simp [intOf]; omega
      · refine (pcopy_any _ pp p g n f hPX.out).mono ?_
        rintro e w5 ⟨pp', p', g', rfl, h5, hpp5, hp5, hg5, hf5⟩
        have hs5 := hf5.size
        have hsx : wr.heap.size + 1 = X.heap.size := by rw [HX.out]; simp
        have hsw := hf.size
        have hne5 : (pp' ≠ g ∧ p' ≠ g ∧ g' ≠ g) ∧ (q ≠ pp' ∧ q ≠ p' ∧ q ≠ g') ∧ (w.heap.size ≤ pp' ∧ w.heap.size ≤ p' ∧ w.heap.size ≤ g') := by omega
        have H5 := Lib.hid h5
        have HP5 := Lib.hid (hPX.out.fr hf5 (by simp) (by simp) (by simp))
        have HR5 : Hid (Rf w5 q n f) := Lib.hid ⟨hRX.out.1.fr hf5 (by simp), hRX.out.2⟩
        have HF5 := Lib.hid (hfX.trans0 hf5)
        clear h5 hf5 hPX hRX hfX HXA HP HR hf hpls hplt hql hs5 hsx hsw hpp5 hp5 hg5 HX hc0 hc1 hc2 hc3
        obtain ⟨wo, rfl⟩ : ∃ wo : World, wo = w5 := ⟨_, rfl⟩
        go_wp2
        go_loopw [18] (fun i wr => ∃ (t : Nat) (f' : Nat → Bool), t ≤ n ∧ i = .int .i64 t ∧ Pl wr pp p g n f' ∧ Fr [g] wo wr) (fun i _ => n - (intOf i).toNat)
        case atStart => exact ⟨0, f, by omega, rfl, HP5.out, Fr.refl _ _⟩
        case round =>
          obtain ⟨t, f', ht, rfl, hp, hfg⟩ := hrel
          have HP := Lib.hid hp
          clear hp
          by_cases htn : t < n
          · go_wp2_with (go_at_call 9; refine (pput_ever _ pp p g n f' HP.out t).mono ?_; rintro e w6 ⟨b6, f6, rfl, h6, hf6⟩)
            go_roundw
            case rel => exact ⟨t + 1, f6, by omega, by go_num, h6, hfg.trans hf6 (by simp)⟩
            case measure => simp [intOf]; omega
          · obtain ⟨⟨hg1, hg2, hg3⟩, ⟨hq1, hq2, hq3⟩, hw1, hw2, hw3⟩ := hne5
            have H6 := Lib.hid (H5.out.fr hfg (by simp; omega) (by simp; omega) (by simp; omega))
            have HR6 : Hid (Rf wr q n f) := Lib.hid ⟨HR5.out.1.fr hfg (by simp; omega), HR5.out.2⟩
            have HF6 := Lib.hid (HF5.out.trans hfg (by simp; omega))
            clear hfg
            go_wp2_with (first | (go_at_call 12; refine (pcount_any _ pp' p' g' n f H6.out).mono ?_; rintro e w' ⟨rfl, rfl⟩) | (go_at_call 19; refine (rcount_any _ q n f HR6.out).mono ?_; rintro e w' ⟨rfl, rfl⟩))
            go_roundw
            case rel => exact ⟨k + 1, pp', p', g', f, by omega, by omega, by go_num, rfl, H6.out, HR6.out, HF6.out, ⟨hw1, hw2, hw3⟩, ⟨hq1, hq2, hq3⟩⟩
            case measure => simp [intOf]; omega
    · have hlt2 : ¬ k < len1 ∨ ¬ k < 50 := by omega
      clear hlt
      obtain ⟨wo, rfl⟩ : ∃ wo : World, wo = wr := ⟨_, rfl⟩
      by_cases h1 : k < len1
      all_goals
        have h5 : ¬ (k < len1 ∧ k < 50) := by omega
        go_wp2
        go_loopw [19] (fun i wr => ∃ j m : Nat, j ≤ n + 2 ∧ i = .int .i64 ((j : Int) - 1) ∧ wr = wo.drewN m) (fun i _ => n + 2 - (intOf i + 1).toNat)
        case atStart => exact ⟨0, 0, by omega, rfl, rfl⟩
        case round =>
          obtain ⟨j, m, hj, rfl, rfl⟩ := hrel
          by_cases hj0 : j = 0
          · subst hj0
            have C := Lib.hid fun W hW => free_is (HP.out.heap (w' := W) hW) (-1) false rfl
            rw [show (((0 : Nat) : Int) - 1) = -1 by rfl]
            go_wp2_with (go_at_call 11; refine (C.out _ (by rfl)).mono ?_; rintro e w' ⟨rfl, rfl⟩)
            go_roundw
            case rel => exact ⟨1, _, by omega, by rfl, by rfl⟩
            case measure => simp [intOf] <;> omega
          · obtain ⟨i, rfl⟩ : ∃ i, j = i + 1 := ⟨j - 1, by omega⟩
            rw [show (((i + 1 : Nat) : Int) - 1) = i by omega]
            by_cases hin : i < n
            · have C := Lib.hid fun W hW => free_is (HP.out.heap (w' := W) hW) i (f i) (by rw [inR_nat _ _ hin, Int.toNat_natCast]; rfl)
              have hci := (HR.out.1.cell i).trans (barr_get n f i hin)
              have hgi : decide ((0 : Int) ≤ i) = true := by simp
              have hgn : decide (i < n) = true := by simp; omega
              generalize f i = fi at *
              go_wp2_with (go_at_call 11; refine (C.out _ (by rfl)).mono ?_; rintro e w' ⟨rfl, rfl⟩)
              go_roundw
              case rel => exact ⟨i + 2, _, by omega, by go_num, by rfl⟩
              case measure => simp [intOf]; omega
            · by_cases hin2 : i = n
              · subst hin2
                have C := Lib.hid fun W hW => free_is (HP.out.heap (w' := W) hW) i false (by unfold inR; simp)
                have hgi : decide ((0 : Int) ≤ i) = true := by simp
                have hgn : decide (i < i) = false := by simp
                go_wp2_with (go_at_call 11; refine (C.out _ (by rfl)).mono ?_; rintro e w' ⟨rfl, rfl⟩)
                go_roundw
                case rel => exact ⟨i + 2, _, by omega, by go_num, by rfl⟩
                case measure => simp [intOf]; omega
              · go_wp2_with (go_at_call 7; refine (works_any _).mono ?_; rintro e w2 ⟨rfl, hf2⟩)
                go_ret
                exact ⟨rfl, (hf.drewN _).trans0 hf2⟩
theorem walk (a0 : Int) (w0 : (Lit.int .i64 a0).wf = true) (a1 : Option Addr) (len1 cap1 : Nat) (w : World) (w1 : Recs w a1 len1 4 Q1) :
    Calls Try.prog 5 #[.int .i64 a0, .slice a1 len1 cap1] w fun e w' => e = .returned (.bool true) ∧ Fr [] w w' := by
  by_cases h : a0 < 0 ∨ 1024 < a0
  · exact walk_bad a0 a1 len1 cap1 w h
  · obtain ⟨n, rfl⟩ := Int.eq_ofNat_of_zero_le (show 0 ≤ a0 by omega)
    exact walk_ok n (by omega) a1 len1 cap1 w w1
-- fields of argument 1: Q1
theorem laidOut : laidOutB Try.prog = true := by kernel_rfl
set_option maxRecDepth 100000 in
theorem lifted (os : Os) (started : os.Started) (H : Type) (enc : TypeId × Value → H) :
    ReturnsInHanded {} Try.checked os 5 .any (Rows.pagesPlaysSpec.pre6 enc Try.prog Try.f5 Rows.pagesPlaysRow.domain false) (Rows.pagesPlaysSpec.post enc Try.prog Try.f5 false true false false) := by
  refine returnsInHanded_of_change (C := Try.checked) own started (by kernel_rfl) Try.func5
    (ChangeSpec.witness6 (enc := enc) (C := Try.checked) false ⟨#[], #[.int .i64 0, .slice none 0 0], []⟩ 8 (by kernel_rfl) (by kernel_rfl) (by kernel_rfl) (by kernel_rfl)) ?_
  intro W base args ds gs before hval0 hW hcnd _
  have hval : ∀ (j : Nat) t v, Try.f5.params[j]? = some t → args[j]? = some v → Value.okWide Try.prog W .any base t v := hval0
  have hW' := hW
  obtain ⟨p, q, hA0, hV, rfl, hfz, hnd⟩ := hW
  have hA : DataW.TrodAll enc Try.prog W 0 (fun _ => true) true Try.f5.params.toList args.toList ds p := hA0
  rw [Try.params5] at hA hval
  obtain ⟨v0, vs0, d0, ds0, p0, q0, hargs, rfl, rfl, h0, r0⟩ := trodAll_cons hA
  obtain ⟨v1, vs1, d1, ds1, p1, q1, rfl, rfl, rfl, h1, r1⟩ := trodAll_cons r0
  obtain ⟨rfl, rfl, rfl⟩ := trodAll_nil r1
  obtain rfl : args = #[v0, v1] := by cases args; simp_all
  obtain ⟨rfl, rfl⟩ := trodVars_none hV
  obtain ⟨a0, rfl, rfl, rfl, w0⟩ := open_int Try.underlying3 (hval 0 3 v0 rfl rfl) h0
  obtain ⟨a1, len1, cap1, rfl⟩ := okWide_slice Try.underlying36 (hval 1 36 v1 rfl rfl)
  have k1 := h1
  have lt1 : ∀ x ∈ p1, x.block < W.heap.size := by obtain ⟨m, hm⟩ := k1; exact DataW.trod_lt m _ _ _ hm
  have w1 : Recs W a1 len1 4 Q1 := by
    obtain ⟨fuel, hf⟩ := h1
    refine open_recs Q1 Try.underlying36 Try.underlying41 (by kernel_rfl) (by kernel_rfl) (by decide) hf ?_
    intro j f v y n hf ht
    match j with
    | 0 => injection hf with hf; subst hf; obtain ⟨z, e, _, wz⟩ := DataW.trod_int Try.underlying3 ht; exact ⟨z, by simpa using e, wz⟩
    | 1 => injection hf with hf; subst hf; obtain ⟨z, e, _, wz⟩ := DataW.trod_int Try.underlying3 ht; exact ⟨z, by simpa using e, wz⟩
    | 2 => injection hf with hf; subst hf; obtain ⟨z, e, _, wz⟩ := DataW.trod_int Try.underlying3 ht; exact ⟨z, by simpa using e, wz⟩
    | 3 => injection hf with hf; subst hf; obtain ⟨z, e, _, wz⟩ := DataW.trod_int Try.underlying3 ht; exact ⟨z, by simpa using e, wz⟩
    | j + 4 => simp at hf
  clear hA0 hval0
  refine (walk a0 w0 a1 len1 cap1 W w1).mono fun e W' ⟨he, hg⟩ => ?_
  subst he
  have bel := hg.below
  exact ⟨_, rfl, _, _, _, [], _, [], hW', trodAll_mk1 (shut_bool Try.underlying4 _), (trodAll_cons_mk (shut_int Try.underlying3 w0) (trodAll_cons_mk (Below.trod laidOut (by kernel_rfl) (of_decide_eq_true (by kernel_rfl)) k1 bel lt1) trodAll_mk0)), rfl, bel.frame _, fun h => by cases h⟩
theorem over : Rows.pagesPlaysRow.holds Try.pinned (OpenSpec.ofChange Rows.pagesPlaysSpec) :=
  OpenClaim.holds_of_wide 5 Try.f5 rfl rfl rfl rfl rfl rfl rfl ⟨rfl, rfl, rfl, rfl, rfl⟩ rfl rfl rfl rfl rfl (by kernel_rfl) Try.func5 (by kernel_rfl)
    (of_decide_eq_true (by kernel_rfl)) (by unfold Func.isWrapper; first | (rw [if_pos (by decide +kernel)]; kernel_rfl) | (rw [if_neg (by decide +kernel)]; exact ⟨rfl, rfl⟩))
    (fun os started H enc _ => lifted os started H enc)
/-- The statement, proved. -/
theorem proved : Rows.PagesPlaysSaid :=
  over
end pagesPlays
end Go.Proofs.Ytnbdjnhdneboiaa
