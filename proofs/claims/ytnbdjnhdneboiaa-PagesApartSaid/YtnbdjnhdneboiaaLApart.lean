/-
  PagesApart: what is taken is free no more, and nobody else is handed any of it, till it is put back. No condition.
-/

import Derived.Test.YtnbdjnhdneboiaaWorks
import Derived.StillTailTactics
set_option linter.unusedVariables false
namespace Go.Proofs.Ytnbdjnhdneboiaa
open Go.ChangeShapes Go.WideShapes Go.ChangeAt Go.RowKit
namespace pagesApart
/-! ### arrays of numbers -/
def arr (n : Nat) (H : Nat → Nat) : Array Value := ((List.range n).map fun k => Value.int .i64 (H k)).toArray
theorem arr_get (n : Nat) (H : Nat → Nat) (k : Nat) (h : k < n) : (arr n H)[k]? = some (.int .i64 (H k)) := by
  unfold arr
  simp [List.getElem?_map, List.getElem?_range h]
theorem arr_size (n : Nat) (H : Nat → Nat) : (arr n H).size = n := by simp [arr]
def aput (H : Nat → Nat) (i v : Nat) : Nat → Nat := fun j => if j = i then v else H j
theorem arr_set (n : Nat) (H : Nat → Nat) (i v : Nat) : (arr n H).setIfInBounds i (.int .i64 v) = arr n (aput H i v) := by
  refine Array.ext_getElem? fun j => ?_
  rw [Array.getElem?_setIfInBounds]
  by_cases hj : j < n
  · rw [arr_get _ _ _ hj, arr_get _ _ _ hj, arr_size]
    unfold aput
    by_cases e : i = j
    · subst e; simp [hj]
    · rw [if_neg e, if_neg (fun h => e h.symm)]
  · have h1 : ∀ g, (arr n g)[j]? = none := fun g => Array.getElem?_eq_none (by rw [arr_size]; omega)
    rw [h1, h1, arr_size]
    by_cases e : i = j
    · subst e; simp [hj]
    · rw [if_neg e]
def fill (H : Nat → Nat) (a r v : Nat) : Nat → Nat := fun j => if a ≤ j ∧ j < a + r then v else H j
theorem fill_zero (H : Nat → Nat) (a v : Nat) : fill H a 0 v = H := funext fun j => by unfold fill; rw [if_neg (by omega)]
theorem fill_succ (H : Nat → Nat) (a r v : Nat) : aput (fill H a r v) (a + r) v = fill H a (r + 1) v := funext fun j => by
  unfold aput fill
  by_cases e : j = a + r
  · subst e; rw [if_pos rfl, if_pos (by omega)]
  · rw [if_neg e]
    by_cases h : a ≤ j ∧ j < a + r
    · rw [if_pos h, if_pos (by omega)]
    · rw [if_neg h, if_neg (by omega)]
/-! ### who holds what -/
structure Inv (f : Nat → Bool) (H A R : Nat → Nat) (e nx : Nat) : Prop where
  free : ∀ k, k < 64 → (H k = 0 ↔ f k = true)
  held : ∀ k, k < 64 → H k ≠ 0 → e ≤ H k ∧ H k < nx ∧ A (H k) ≤ k ∧ k < A (H k) + R (H k)
  back : ∀ t, e ≤ t → t < nx → 1 ≤ R t ∧ A t + R t ≤ 64 ∧ ∀ k, A t ≤ k → k < A t + R t → H k = t
  one : 1 ≤ e
  le : e ≤ nx
theorem Inv.put {f : Nat → Bool} {H A R : Nat → Nat} {e nx : Nat} (h : Inv f H A R e nx) (he : e < nx) : Inv (setr f (A e) (R e)) (fill H (A e) (R e) 0) A R (e + 1) nx := by
  obtain ⟨b1, b2, b3⟩ := h.back e (Nat.le_refl _) he
  refine ⟨fun k hk => ?_, fun k hk hne => ?_, fun t h1 h2 => ?_, by omega, by omega⟩
  · unfold fill setr
    by_cases hr : A e ≤ k ∧ k < A e + R e
    · simp [hr]
    · rw [if_neg hr, h.free k hk]
      have : (decide (A e ≤ k) && decide (k < A e + R e)) = false := by simp; omega
      rw [this, Bool.or_false]
  · unfold fill at hne ⊢
    by_cases hr : A e ≤ k ∧ k < A e + R e
    · rw [if_pos hr] at hne; exact (hne rfl).elim
    · rw [if_neg hr] at hne ⊢
      obtain ⟨c1, c2, c3, c4⟩ := h.held k hk hne
      refine ⟨?_, c2, c3, c4⟩
      by_cases e1 : H k = e
      · rw [e1] at c3 c4; omega
      · omega
  · obtain ⟨d1, d2, d3⟩ := h.back t (by omega) h2
    refine ⟨d1, d2, fun k k1 k2 => ?_⟩
    unfold fill
    by_cases hr : A e ≤ k ∧ k < A e + R e
    · have := b3 k hr.1 hr.2; have := d3 k k1 k2; omega
    · rw [if_neg hr]; exact d3 k k1 k2
theorem Inv.ok {f : Nat → Bool} {H A R : Nat → Nat} {e nx : Nat} (h : Inv f H A R e nx) (he : e < nx) : okPut f 64 (A e) (R e) = true := by
  obtain ⟨b1, b2, b3⟩ := h.back e (Nat.le_refl _) he
  have ho := h.one
  unfold okPut hit cntB
  rw [cnt_zero _ _ fun i hi => by
    unfold btw
    by_cases hr : A e ≤ i ∧ i < A e + R e
    · have h1 := b3 i hr.1 hr.2
      have h2 := h.free i (by omega)
      cases hf : f i with
      | false => rfl
      | true => have := h2.2 hf; omega
    · simp; omega]
  simp; omega
theorem Inv.take {f : Nat → Bool} {H A R : Nat → Nat} {e nx : Nat} (h : Inv f H A R e nx) (a r : Nat) (hr : 1 ≤ r) (ha : a + r ≤ 64) (hall : ∀ i, i < r → f (a + i) = true) :
    Inv (clr f a (a + r)) (fill H a r nx) (aput A nx a) (aput R nx r) e (nx + 1) := by
  have ho := h.one
  have hle := h.le
  have hz : ∀ k, a ≤ k → k < a + r → H k = 0 := fun k h1 h2 => (h.free k (by omega)).2 (by have := hall (k - a) (by omega); rwa [show a + (k - a) = k by omega] at this)
  refine ⟨fun k hk => ?_, fun k hk hne => ?_, fun t h1 h2 => ?_, ho, by omega⟩
  · unfold fill clr
    by_cases hr : a ≤ k ∧ k < a + r
    · simp [hr]; omega
    · rw [if_neg hr, h.free k hk]
      have : (decide (a ≤ k) && decide (k < a + r)) = false := by simp; omega
      rw [this]; simp
  · unfold fill at hne ⊢
    by_cases hr : a ≤ k ∧ k < a + r
    · rw [if_pos hr]; unfold aput; rw [if_pos rfl, if_pos rfl]; omega
    · rw [if_neg hr] at hne ⊢
      obtain ⟨c1, c2, c3, c4⟩ := h.held k hk hne
      unfold aput; rw [if_neg (by omega), if_neg (by omega)]; omega
  · by_cases e1 : t = nx
    · subst e1
      unfold aput fill
      rw [if_pos rfl, if_pos rfl]
      exact ⟨hr, ha, fun k k1 k2 => by rw [if_pos ⟨k1, k2⟩]⟩
    · obtain ⟨d1, d2, d3⟩ := h.back t h1 (by omega)
      unfold aput fill
      rw [if_neg e1, if_neg e1]
      refine ⟨d1, d2, fun k k1 k2 => ?_⟩
      by_cases hr : a ≤ k ∧ k < a + r
      · have := hz k hr.1 hr.2; have := d3 k k1 k2; omega
      · rw [if_neg hr]; exact d3 k k1 k2
theorem zero64 (w : World) : (zeroValue 27).run Try.prog w = .ok (.agg (arr 64 fun _ => 0)) w := by kernel_rfl
theorem zero41 (w : World) : (zeroValue 28).run Try.prog w = .ok (.agg (arr 41 fun _ => 0)) w := by kernel_rfl
theorem Inv.start : Inv (setr (fun _ => false) 0 64) (fun _ => 0) (fun _ => 0) (fun _ => 0) 1 1 :=
  ⟨fun k hk => by simp [setr, hk], fun k _ h => (h rfl).elim, fun t h1 h2 => by omega, Nat.le_refl _, Nat.le_refl _⟩
set_option maxHeartbeats 4000000 in
set_option maxRecDepth 100000 in
theorem walk0 (a1 : Option Addr) (b off len1 cap1 : Nat) (z1 : List Int) (w : World) (ha1 : len1 = 0 ∨ a1 = some ⟨b, off, none⟩) (hlen : len1 ≤ 9223372036854775807) (hzl : z1.length = len1) (hwf : ∀ z ∈ z1, (Lit.int .u8 z).wf = true) (hb : 0 < len1 → b < w.heap.size) (hc : ∀ i, i < len1 → w.cell? ⟨b, off + i, none⟩ = some (.int .u8 (z1.getD i 0))) :
    Calls Try.prog 3 #[.slice a1 len1 cap1] w fun e w' => e = .returned (.bool true) ∧ Fr [] w w' := by
  have hz64 := zero64
  have hz41 := zero41
  have Hc := Lib.hid hc
  have Hwf := Lib.hid hwf
  have Hzl := Lib.hid hzl
  have Hb := Lib.hid hb
  have HA1 := Lib.hid ha1
  clear hc hwf hzl hb ha1
  go_enter Try.func3, Try.ntmps3
  go_wp2_with (first | (go_at_call 7; refine (works_any _).mono ?_; rintro e w2 ⟨rfl, hf2⟩) | (go_at_call 8; refine (pnew_any 64 _ (by omega)).mono ?_; rintro e w3 ⟨pp, p, g, rfl, h3, hpp, hp, hg, hf3⟩) | (go_at_call 9; refine (pput_yes _ pp p g 64 _ h3 0 64 (by decide +kernel)).mono ?_; rintro e w4 ⟨rfl, h4, hf4⟩))
  clear hz64 hz41
  have hs4 := hf4.size
  have hs3 := hf3.size
  have hs2 := hf2.size
  have hl4 := h4.1.lt
  have hl5 := h4.2.1.lt
  have hfw : Fr [] w w4 := (hf2.trans0 hf3).trans hf4 (by simp; omega)
  have hh := At.new w4 27 (arr 64 fun _ => 0)
  have hA := At.new (w4.alloc (.cells (arr 64 fun _ => 0) 27)) 28 (arr 41 fun _ => 0)
  have hR := At.new ((w4.alloc (.cells (arr 64 fun _ => 0) 27)).alloc (.cells (arr 41 fun _ => 0) 28)) 28 (arr 41 fun _ => 0)
  rw [World.size_alloc] at hA
  rw [World.size_alloc, World.size_alloc] at hR
  have hh2 := (hh.old (.cells (arr 41 fun _ => 0) 28)).old (.cells (arr 41 fun _ => 0) 28)
  have hA2 := hA.old (.cells (arr 41 fun _ => 0) 28)
  have hp4 := h4.fr (S := []) ((((Fr.refl [] w4).alloc (.cells (arr 64 fun _ => 0) 27)).alloc (.cells (arr 41 fun _ => 0) 28)).alloc (.cells (arr 41 fun _ => 0) 28)) (by simp) (by simp) (by simp)
  have hfz := ((hfw.alloc (.cells (arr 64 fun _ => 0) 27)).alloc (.cells (arr 41 fun _ => 0) 28)).alloc (.cells (arr 41 fun _ => 0) 28)
  obtain ⟨qh, hqh⟩ : ∃ q, w4.heap.size = q := ⟨_, rfl⟩
  rw [hqh] at hh2 hA2 hR hl4 hl5 ⊢
  have hnum : w.heap.size ≤ qh ∧ w.heap.size ≤ pp ∧ w.heap.size ≤ p ∧ w.heap.size ≤ g := by omega
  have H1 := Lib.hid hh2
  have H2 := Lib.hid hA2
  have H3 := Lib.hid hR
  have H4 := Lib.hid hp4
  have HS := Lib.hid Inv.start
  clear hh hA hR hh2 hA2 hp4 h3 h4 hf2 hf3 hf4 hfw hqh hs2 hs3 hs4
  go_loopw [7, 8, 9] (fun e nx i wr => ∃ (k E N : Nat) (f : Nat → Bool) (H A R : Nat → Nat), k ≤ 40 ∧ k ≤ len1 ∧ N ≤ k + 1 ∧ i = .int .i64 k ∧ e = .int .i64 E ∧ nx = .int .i64 N ∧ Pl wr pp p g 64 f ∧ At wr qh 27 (arr 64 H) ∧ At wr (qh + 1) 28 (arr 41 A) ∧ At wr (qh + 1 + 1) 28 (arr 41 R) ∧ Inv f H A R E N ∧ Fr [] w wr) (fun _ _ i _ => 40 - (intOf i).toNat)
  case atStart => exact ⟨0, 1, 1, _, _, _, _, by omega, by omega, by omega, rfl, rfl, rfl, H4.out, H1.out, H2.out, H3.out, HS.out, hfz⟩
  case round =>
    obtain ⟨k, E, N, f, H, A, R, hk, hkl, hN, rfl, rfl, rfl, hpl, hh, hA, hR, hinv, hf⟩ := hrel
    have hE1 := hinv.one
    have hEN := hinv.le
    have HP := Lib.hid hpl
    have HH := Lib.hid hh
    have HA := Lib.hid hA
    have HR := Lib.hid hR
    have HI := Lib.hid hinv
    by_cases hlt : k < len1 ∧ k < 40
    · obtain ⟨hl1, hl2⟩ := hlt
      obtain rfl : a1 = some ⟨b, off, none⟩ := HA1.out.resolve_left (by omega)
      have hb := Hb.out (by omega)
      by_cases hput : k % 3 = 2 ∧ E < N
      · obtain ⟨hk3, hEN2⟩ := hput
        have hk3' : ((k : Int) % 3 == 2) = true := by simp; omega
        obtain ⟨b1, b2, b3⟩ := hinv.back E (Nat.le_refl _) hEN2
        have hcA := (hA.cell E).trans (arr_get 41 A E (by omega))
        have hcR := (hR.cell E).trans (arr_get 41 R E (by omega))
        have C := Lib.hid fun (W : World) (hW : W.heap = wr.heap) => pput_yes W pp p g 64 f (by unfold Pl Tg At at *; rw [hW]; exact HP.out) (A E) (R E) (hinv.ok hEN2)
        clear hinv hpl hh hA hR b3
        go_wp2
        go_region_with (go_at_call 9; refine (C.out wr.drew rfl).mono ?_; rintro e w5 ⟨rfl, h5, hf5⟩)
        all_goals
          have HP5 := Lib.hid h5
          have hf6 : Fr [g] wr w5 := hf5.hd rfl rfl rfl rfl
          have HH5 := Lib.hid (HH.out.fr hf6 (by simp; omega))
          have HA5 := Lib.hid (HA.out.fr hf6 (by simp; omega))
          have HR5 := Lib.hid (HR.out.fr hf6 (by simp; omega))
          have hfw5 : Fr [] w w5 := hf.trans hf6 (by simp; omega)
          clear h5 hf5 hf6 C hcA hcR
          obtain ⟨wo, rfl⟩ : ∃ wo : World, wo = w5 := ⟨_, rfl⟩
          have HIp := Lib.hid (HI.out.put hEN2)
          go_wp2
          go_loopw [10] (fun i wr => ∃ t : Nat, t ≤ R E ∧ i = .int .i64 t ∧ At wr qh 27 (arr 64 (fill H (A E) t 0)) ∧ Fr [qh] wo wr) (fun i _ => R E - (intOf i).toNat)
          case atStart => exact ⟨0, by omega, rfl, by rw [fill_zero]; exact HH5.out, Fr.refl _ _⟩
          case round =>
            obtain ⟨t, ht, rfl, hh, hfq⟩ := hrel
            have hcA := ((HA5.out.fr hfq (by simp)).cell E).trans (arr_get 41 A E (by omega))
            have hcR := ((HR5.out.fr hfq (by simp; omega)).cell E).trans (arr_get 41 R E (by omega))
            have HHq := Lib.hid hh
            by_cases htr : t < R E
            · have hcH := (hh.cell (A E + t)).trans (arr_get 64 _ (A E + t) (by omega))
              have hfH := hh.froz (A E + t)
              clear hh
              go_wp2
              go_roundw
              case rel =>
                refine ⟨t + 1, by omega, by go_num, ?_, hfq.set (.inl (by simp)) _⟩
                have := HHq.out.set (A E + t) (.int .i64 ((0 : Nat) : Int))
                rw [arr_set, fill_succ] at this
                exact this
              case measure => simp [intOf]; omega
            · obtain rfl : t = R E := by omega
              clear hh
              go_wp2
              go_roundw
              case rel =>
                exact ⟨k + 1, E + 1, N, _, _, _, _, by omega, by omega, by omega, by go_num, by go_num, rfl, HP5.out.fr hfq (by simp; omega) (by simp; omega) (by simp; omega), HHq.out, HA5.out.fr hfq (by simp), HR5.out.fr hfq (by simp; omega), HIp.out, hfw5.trans hfq (by simp; omega)⟩
              case measure => simp [intOf]; omega
      · have hzk := (hf.cell (a := ⟨b, off + k, none⟩) hb (by simp)).trans (Hc.out k hl1)
        have hzw := bounds_u8 (Hwf.out (z1.getD k 0) (by
          rw [List.getD_eq_getElem?_getD, List.getElem?_eq_getElem (by rw [Hzl.out]; exact hl1)]
          exact List.getElem_mem _))
        obtain ⟨z, hze⟩ : ∃ z, z1.getD k 0 = z := ⟨_, rfl⟩
        rw [hze] at hzk hzw
        obtain ⟨rn, hrn⟩ := Int.eq_ofNat_of_zero_le (show 0 ≤ 1 + z % 9 by omega)
        obtain ⟨sh, hsh⟩ := Int.eq_ofNat_of_zero_le (show 0 ≤ z / 9 % 4 by omega)
        have hrn9 : 1 ≤ rn ∧ rn ≤ 9 := by omega
        have hsh4 : sh = 0 ∨ sh = 1 ∨ sh = 2 ∨ sh = 3 := by omega
        obtain ⟨al, hal, hal8⟩ : ∃ al : Nat, RowKit.wrap64 ((2 : Int) ^ sh) = al ∧ (1 ≤ al ∧ al ≤ 8) := by
          rcases hsh4 with rfl | rfl | rfl | rfl
          · exact ⟨1, by decide +kernel, by omega⟩
          · exact ⟨2, by decide +kernel, by omega⟩
          · exact ⟨4, by decide +kernel, by omega⟩
          · exact ⟨8, by decide +kernel, by omega⟩
        have hk3' : Hid (k % 3 = 2 → ¬ E < N) := Lib.hid fun h h2 => hput ⟨h, h2⟩
        clear hinv hpl hh hA hR hze hsh4 hput
        have hPW := Lib.hid fun (W : World) (hW : W.heap = wr.heap) => show Pl W pp p g 64 f by unfold Pl Tg At at *; rw [hW]; exact HP.out
        rcases findI_range f 64 rn al with hV | ⟨a, hV, _, _, ha64, har, hgood, _⟩
        · have C := Lib.hid fun W hW => take_no W pp p g 64 f (hPW.out W hW) rn al (by omega) hV
          clear hV
          by_cases hk3 : k % 3 = 2
          · have hk4 : ((k : Int) % 3 == 2) = true := by simp; omega
            have hEN2 : ¬ E < N := hk3'.out hk3
            clear hk3
            go_wp2
            go_quiet (fail)
            go_wp2_with (go_at_call 10; refine (C.out (wr.drewN nq) rfl).mono ?_; rintro e w5 ⟨rfl, rfl⟩)
            go_roundw
            case rel => exact ⟨k + 1, E, N, f, H, A, R, by omega, by omega, by omega, by go_num, rfl, rfl, HP.out.drewN _, HH.out, HA.out, HR.out, HI.out, hf.drewN _⟩
            case measure => simp [intOf]; omega
          · have hk4 : ((k : Int) % 3 == 2) = false := by simp; omega
            clear hk3
            go_wp2
            go_quiet (fail)
            go_wp2_with (go_at_call 10; refine (C.out (wr.drewN nq) rfl).mono ?_; rintro e w5 ⟨rfl, rfl⟩)
            go_roundw
            case rel => exact ⟨k + 1, E, N, f, H, A, R, by omega, by omega, by omega, by go_num, rfl, rfl, HP.out.drewN _, HH.out, HA.out, HR.out, HI.out, hf.drewN _⟩
            case measure => simp [intOf]; omega
        · have C := Lib.hid fun W hW => take_yes W pp p g 64 f (hPW.out W hW) rn a al (by omega) hV (by omega)
          clear hV
          simp only [Int.toNat_natCast] at hgood
          unfold good at hgood
          simp only [Bool.and_eq_true, decide_eq_true_eq] at hgood
          obtain ⟨hg1, hg2, hg3⟩ := hgood
          have hmz : ((a : Int) % al != 0) = false := by
            rw [show ((a : Int) % al) = ((a % al : Nat) : Int) by simp, hg1]; rfl
          have halz : ((al : Int) == 0) = false := by simp; omega
          have halz2 : ¬ al = 0 := by omega
          have Hall := Lib.hid ((alls_iff f a rn).1 hg3)
          have HIt := Lib.hid (HI.out.take a rn hrn9.1 hg2 Hall.out)
          have HFz : Hid (∀ t, t < rn → H (a + t) = 0) := Lib.hid fun t ht => (HI.out.free (a + t) (by omega)).2 (Hall.out t ht)
          clear hg1 hg3
          have hk5 : ((k : Int) % 3 == 2) = ((k : Int) % 3 == 2) := rfl
          by_cases hk3 : k % 3 = 2
          · have hk4 : ((k : Int) % 3 == 2) = true := by simp; omega
            have hEN2 : ¬ E < N := hk3'.out hk3
            clear hk3 hk5
            go_wp2
            go_quiet (fail)
            go_wp2_with (go_at_call 10; refine (C.out (wr.drewN nq) rfl).mono ?_; rintro e w5 ⟨rfl, h5, hf5⟩)
            have HP5 := Lib.hid h5
            have hf6 : Fr [g] wr w5 := hf5.hd rfl rfl rfl rfl
            have HH5 := Lib.hid (HH.out.fr hf6 (by simp; omega))
            have HA5 := Lib.hid (HA.out.fr hf6 (by simp; omega))
            have HR5 := Lib.hid (HR.out.fr hf6 (by simp; omega))
            have hfw5 : Fr [] w w5 := hf.trans hf6 (by simp; omega)
            clear h5 hf5 hf6 C hzk
            go_loopw [15] (fun i wr => ∃ t : Nat, t ≤ rn ∧ i = .int .i64 t ∧ At wr qh 27 (arr 64 (fill H a t N)) ∧ Fr [qh] w5 wr) (fun i _ => rn - (intOf i).toNat)
            case atStart => exact ⟨0, by omega, rfl, by rw [fill_zero]; exact HH5.out, Fr.refl _ _⟩
            case round =>
              obtain ⟨t, ht, rfl, hh, hfq⟩ := hrel
              have HHq := Lib.hid hh
              have HPq := Lib.hid (HP5.out.fr hfq (by simp; omega) (by simp; omega) (by simp; omega))
              by_cases htr : t < rn
              · have hcH := (hh.cell (a + t)).trans (arr_get 64 _ (a + t) (by omega))
                rw [show fill H a t N (a + t) = 0 by unfold fill; rw [if_neg (by omega)]; exact HFz.out t htr] at hcH
                have hfH := hh.froz (a + t)
                have C2 := Lib.hid (free_is HPq.out ((a : Int) + t) false (by
                  rw [show ((a : Int) + t).toNat = a + t by omega, show clr f a (a + rn) (a + t) = false by unfold clr; simp; omega]; simp))
                clear hh
                go_wp2_with (go_at_call 11; refine (C2.out).mono ?_; rintro e w6 ⟨rfl, rfl⟩)
                go_roundw
                case rel =>
                  refine ⟨t + 1, by omega, by go_num, ?_, hfq.set (.inl (by simp)) _⟩
                  have := HHq.out.set (a + t) (.int .i64 (N : Int))
                  rw [arr_set, fill_succ] at this
                  exact this
                case measure => simp [intOf]; omega
              · obtain rfl : t = rn := by omega
                have HAq := Lib.hid (HA5.out.fr hfq (by simp))
                have HRq := Lib.hid (HR5.out.fr hfq (by simp; omega))
                have cA := (HAq.out.cell N).trans (arr_get 41 A N (by omega))
                have fA := HAq.out.froz N
                have cR := (HRq.out.cell N).trans (arr_get 41 R N (by omega))
                have fR := HRq.out.froz N
                clear hh
                go_wp2
                go_roundw
                case rel =>
                  refine ⟨k + 1, E, N + 1, _, _, _, _, by omega, by omega, by omega, by go_num, rfl, by go_num, ?_, ?_, ?_, ?_, HIt.out, ?_⟩
                  · exact HPq.out.fr (S := [qh + 1, qh + 1 + 1]) (((Fr.refl _ _).set (.inl (by simp)) _).set (.inl (by simp)) _) (by simp; omega) (by simp; omega) (by simp; omega)
                  · exact (HHq.out.far (by show qh ≠ qh + 1; omega) _).far (by show qh ≠ qh + 1 + 1; omega) _
                  · have := HAq.out.set N (.int .i64 (a : Int))
                    rw [arr_set] at this
                    exact this.far (by show qh + 1 ≠ qh + 1 + 1; omega) _
                  · have := (HRq.out.far (a := ⟨qh + 1, N, none⟩) (by show qh + 1 + 1 ≠ qh + 1; omega) (.int .i64 (a : Int))).set N (.int .i64 (t : Int))
                    rw [arr_set] at this
                    exact this
                  · exact ((hfw5.trans hfq (by simp; omega)).set (.inr (by show w.heap.size ≤ qh + 1; omega)) _).set (.inr (by show w.heap.size ≤ qh + 1 + 1; omega)) _
                case measure => simp [intOf]; omega
          · have hk4 : ((k : Int) % 3 == 2) = false := by simp; omega
            clear hk3 hk5
            go_wp2
            go_quiet (fail)
            go_wp2_with (go_at_call 10; refine (C.out (wr.drewN nq) rfl).mono ?_; rintro e w5 ⟨rfl, h5, hf5⟩)
            have HP5 := Lib.hid h5
            have hf6 : Fr [g] wr w5 := hf5.hd rfl rfl rfl rfl
            have HH5 := Lib.hid (HH.out.fr hf6 (by simp; omega))
            have HA5 := Lib.hid (HA.out.fr hf6 (by simp; omega))
            have HR5 := Lib.hid (HR.out.fr hf6 (by simp; omega))
            have hfw5 : Fr [] w w5 := hf.trans hf6 (by simp; omega)
            clear h5 hf5 hf6 C hzk
            go_loopw [15] (fun i wr => ∃ t : Nat, t ≤ rn ∧ i = .int .i64 t ∧ At wr qh 27 (arr 64 (fill H a t N)) ∧ Fr [qh] w5 wr) (fun i _ => rn - (intOf i).toNat)
            case atStart => exact ⟨0, by omega, rfl, by rw [fill_zero]; exact HH5.out, Fr.refl _ _⟩
            case round =>
              obtain ⟨t, ht, rfl, hh, hfq⟩ := hrel
              have HHq := Lib.hid hh
              have HPq := Lib.hid (HP5.out.fr hfq (by simp; omega) (by simp; omega) (by simp; omega))
              by_cases htr : t < rn
              · have hcH := (hh.cell (a + t)).trans (arr_get 64 _ (a + t) (by omega))
                rw [show fill H a t N (a + t) = 0 by unfold fill; rw [if_neg (by omega)]; exact HFz.out t htr] at hcH
                have hfH := hh.froz (a + t)
                have C2 := Lib.hid (free_is HPq.out ((a : Int) + t) false (by
                  rw [show ((a : Int) + t).toNat = a + t by omega, show clr f a (a + rn) (a + t) = false by unfold clr; simp; omega]; simp))
                clear hh
                go_wp2_with (go_at_call 11; refine (C2.out).mono ?_; rintro e w6 ⟨rfl, rfl⟩)
                go_roundw
                case rel =>
                  refine ⟨t + 1, by omega, by go_num, ?_, hfq.set (.inl (by simp)) _⟩
                  have := HHq.out.set (a + t) (.int .i64 (N : Int))
                  rw [arr_set, fill_succ] at this
                  exact this
                case measure => simp [intOf]; omega
              · obtain rfl : t = rn := by omega
                have HAq := Lib.hid (HA5.out.fr hfq (by simp))
                have HRq := Lib.hid (HR5.out.fr hfq (by simp; omega))
                have cA := (HAq.out.cell N).trans (arr_get 41 A N (by omega))
                have fA := HAq.out.froz N
                have cR := (HRq.out.cell N).trans (arr_get 41 R N (by omega))
                have fR := HRq.out.froz N
                clear hh
                go_wp2
                go_roundw
                case rel =>
                  refine ⟨k + 1, E, N + 1, _, _, _, _, by omega, by omega, by omega, by go_num, rfl, by go_num, ?_, ?_, ?_, ?_, HIt.out, ?_⟩
                  · exact HPq.out.fr (S := [qh + 1, qh + 1 + 1]) (((Fr.refl _ _).set (.inl (by simp)) _).set (.inl (by simp)) _) (by simp; omega) (by simp; omega) (by simp; omega)
                  · exact (HHq.out.far (by show qh ≠ qh + 1; omega) _).far (by show qh ≠ qh + 1 + 1; omega) _
                  · have := HAq.out.set N (.int .i64 (a : Int))
                    rw [arr_set] at this
                    exact this.far (by show qh + 1 ≠ qh + 1 + 1; omega) _
                  · have := (HRq.out.far (a := ⟨qh + 1, N, none⟩) (by show qh + 1 + 1 ≠ qh + 1; omega) (.int .i64 (a : Int))).set N (.int .i64 (t : Int))
                    rw [arr_set] at this
                    exact this
                  · exact ((hfw5.trans hfq (by simp; omega)).set (.inr (by show w.heap.size ≤ qh + 1; omega)) _).set (.inr (by show w.heap.size ≤ qh + 1 + 1; omega)) _
                case measure => simp [intOf]; omega
    · have hlt' : ¬ k < len1 ∨ ¬ k < 40 := by omega
      obtain ⟨wo, rfl⟩ : ∃ wo : World, wo = wr := ⟨_, rfl⟩
      clear hinv hpl hh hA hR hlt
      have hlt2 : ¬ k < len1 ∨ k < len1 := by omega
      rcases hlt2 with hl2 | hl2
      all_goals
        go_wp2
        go_loopw [16, 17] (fun c i wr => ∃ j m : Nat, j ≤ 64 ∧ i = .int .i64 j ∧ c = .int .i64 (cnt f j) ∧ wr = wo.drewN m) (fun _ i _ => 64 - (intOf i).toNat)
        case atStart => exact ⟨0, 0, by omega, rfl, rfl, rfl⟩
        case round =>
          obtain ⟨j, m, hj, rfl, rfl, rfl⟩ := hrel
          have hcl := cnt_le f j
          by_cases hjn : j < 64
          · have hcj := (HH.out.cell j).trans (arr_get 64 H j hjn)
            have hfr := HI.out.free j hjn
            cases hfj : f j
            · have hne : H j ≠ 0 := fun h => by rw [hfr.1 h] at hfj; cases hfj
              have hne2 : ((H j : Int) == 0) = false := by simp; omega
              have C := Lib.hid fun nq => free_is (HP.out.drewN nq) (j : Int) false (by rw [Int.toNat_natCast, hfj]; simp)
              have Hn := Lib.hid (show cnt f (j + 1) = cnt f j by simp [cnt, hfj])
              clear hfj hfr
              generalize H j = hv at *
              go_wp2
              go_quiet ((go_at_call 11; exact q_same_add (C.out _)))
              go_wp2
              go_roundw
              case rel => exact ⟨j + 1, _, by omega, by go_num, by rw [Hn.out], rfl⟩
              case measure => simp [intOf]; omega
            · have hz := hfr.2 hfj
              rw [hz] at hcj
              have C := Lib.hid fun nq => free_is (HP.out.drewN nq) (j : Int) true (by rw [Int.toNat_natCast, hfj, inR_nat j 64 hjn]; rfl)
              have Hn := Lib.hid (show cnt f (j + 1) = cnt f j + 1 by simp [cnt, hfj])
              clear hfj hfr hz
              go_wp2
              go_quiet ((go_at_call 11; exact q_same_add (C.out _)))
              go_wp2
              go_roundw
              case rel => exact ⟨j + 1, _, by omega, by go_num, by rw [Hn.out]; go_num, rfl⟩
              case measure => simp [intOf]; omega
          · obtain rfl : j = 64 := by omega
            go_wp2_with (go_at_call 12; refine (pcount_any _ pp p g 64 f (HP.out.drewN _)).mono ?_; rintro e w5 ⟨rfl, rfl⟩)
            go_ret
            exact ⟨rfl, hf.drewN _⟩
theorem walk (a1 : Option Addr) (len1 cap1 : Nat) (z1 : List Int) (w : World) (w1 : Ints .u8 w a1 len1 z1) :
    Calls Try.prog 3 #[.slice a1 len1 cap1] w fun e w' => e = .returned (.bool true) ∧ Fr [] w w' := by
  obtain ⟨h1, h2, h3, h4⟩ := w1
  rcases h4 with h4 | ⟨b, off, h5, h6, h7⟩
  · exact walk0 a1 0 0 len1 cap1 z1 w (.inl h4) h1 h2 h3 (fun h => by omega) (fun i hi => by omega)
  · exact walk0 a1 b off len1 cap1 z1 w (.inr h5) h1 h2 h3 (fun _ => h6) h7
theorem laidOut : laidOutB Try.prog = true := by kernel_rfl
set_option maxRecDepth 100000 in
theorem lifted (os : Os) (started : os.Started) (H : Type) (enc : TypeId × Value → H) :
    ReturnsInHanded {} Try.checked os 3 .any (Rows.pagesApartSpec.pre6 enc Try.prog Try.f3 Rows.pagesApartRow.domain false) (Rows.pagesApartSpec.post enc Try.prog Try.f3 false true false false) := by
  refine returnsInHanded_of_change (C := Try.checked) own started (by kernel_rfl) Try.func3
    (ChangeSpec.witness6 (enc := enc) (C := Try.checked) false ⟨#[], #[.slice none 0 0], []⟩ 8 (by kernel_rfl) (by kernel_rfl) (by kernel_rfl) (by kernel_rfl)) ?_
  intro W base args ds gs before hval0 hW hcnd _
  have hval : ∀ (j : Nat) t v, Try.f3.params[j]? = some t → args[j]? = some v → Value.okWide Try.prog W .any base t v := hval0
  have hW' := hW
  obtain ⟨p, q, hA0, hV, rfl, hfz, hnd⟩ := hW
  have hA : DataW.TrodAll enc Try.prog W 0 (fun _ => true) true Try.f3.params.toList args.toList ds p := hA0
  rw [Try.params3] at hA hval
  obtain ⟨v0, vs0, d0, ds0, p0, q0, hargs, rfl, rfl, h0, r0⟩ := trodAll_cons hA
  obtain ⟨rfl, rfl, rfl⟩ := trodAll_nil r0
  obtain rfl : args = #[v0] := by cases args; simp_all
  obtain ⟨rfl, rfl⟩ := trodVars_none hV
  obtain ⟨a0, len0, cap0, rfl⟩ := okWide_slice Try.underlying22 (hval 0 22 v0 rfl rfl)
  have k0 := h0
  have lt0 : ∀ x ∈ p0, x.block < W.heap.size := by obtain ⟨m, hm⟩ := k0; exact DataW.trod_lt m _ _ _ hm
  obtain ⟨z0, w0⟩ : ∃ zs, Ints .u8 W a0 len0 zs := by
    obtain ⟨fuel, hf⟩ := h0
    rcases open_ints Try.underlying22 Try.underlying5 (by kernel_rfl) hf with ⟨hcs, _⟩ | ⟨x, l, c, zs, hcs, _, hl, hm, hz, _, hcell, hwz⟩
    · simp [Value.cells] at hcs
      obtain ⟨rfl, rfl, rfl⟩ := hcs
      exact ⟨[], Ints.nil _⟩
    · simp [Value.cells] at hcs
      obtain ⟨rfl, rfl, rfl⟩ := hcs
      exact ⟨zs.take len0, Ints.of hl hm (by simpa using hz) hcell hwz⟩
  clear hA0 hval0
  refine (walk a0 len0 cap0 z0 W w0).mono fun e W' ⟨he, hg⟩ => ?_
  subst he
  have bel := hg.below
  exact ⟨_, rfl, _, _, _, [], _, [], hW', trodAll_mk1 (shut_bool Try.underlying4 _), (trodAll_cons_mk (Below.trod laidOut (by kernel_rfl) (of_decide_eq_true (by kernel_rfl)) k0 bel lt0) trodAll_mk0), rfl, bel.frame _, fun h => by cases h⟩
theorem over : Rows.pagesApartRow.holds Try.pinned (OpenSpec.ofChange Rows.pagesApartSpec) :=
  OpenClaim.holds_of_wide 3 Try.f3 rfl rfl rfl rfl rfl rfl rfl ⟨rfl, rfl, rfl, rfl, rfl⟩ rfl rfl rfl rfl rfl (by kernel_rfl) Try.func3 (by kernel_rfl)
    (of_decide_eq_true (by kernel_rfl)) (by unfold Func.isWrapper; first | (rw [if_pos (by decide +kernel)]; kernel_rfl) | (rw [if_neg (by decide +kernel)]; exact ⟨rfl, rfl⟩))
    (fun os started H enc _ => lifted os started H enc)
/-- The statement, proved. -/
theorem proved : Rows.PagesApartSaid :=
  over
end pagesApart
end Go.Proofs.Ytnbdjnhdneboiaa
