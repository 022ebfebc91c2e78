/-
  QuarantineOnce: what was freed is let go once, by the end of a sweep that began behind its being freed. No condition.
-/



import Derived.Test.YtflhpgfnffmimaaOnce
import Derived.Test.YtflhpgfnffmimaaArr
set_option linter.unusedVariables false
namespace Go.Proofs.Ytflhpgfnffmimaa
open Go.ChangeShapes Go.WideShapes Go.ChangeAt Go.RowKit
namespace quarantineOnce
open once
def ar (f : Nat → Nat) : Array Value := arr 200 fun j => .int .i64 (f j)
theorem ar_set (f : Nat → Nat) (x v : Nat) : (ar f).setIfInBounds x (.int .i64 (v : Nat)) = ar (setN f x v) := by
  unfold ar
  rw [arr_set]
  refine arr_congr 200 _ _ fun i _ => ?_
  unfold setN
  by_cases e : i = x
  · rw [if_pos e, if_pos e]
  · rw [if_neg e, if_neg e]
theorem ar_get (f : Nat → Nat) (x : Nat) (hx : x < 200) : (ar f)[x]? = some (.int .i64 (f x : Nat)) := arr_get 200 _ x hx
theorem zero200 (w : World) : (zeroValue 26).run Try.prog w = .ok (.agg (ar fun _ => 0)) w := by kernel_rfl
section
variable {w0 w w' : World} {y q : Nat} {m : MS} {s : YS} {cs : Array Value}
theorem off3 {a b c n : Nat} {f : Nat → Bool} (h : Pt w a b c n f) (hq : At w q 26 cs) : a ≠ q ∧ b ≠ q ∧ c ≠ q := by
  obtain ⟨⟨_, h1⟩, ⟨_, h2⟩, ⟨_, h3⟩⟩ := Pt.blocks h
  refine ⟨?_, ?_, ?_⟩
  · rintro rfl; exact absurd (h1.inj hq).1 (by decide)
  · rintro rfl; exact absurd (h2.inj hq).1 (by decide)
  · rintro rfl; exact absurd (h3.inj hq).1 (by decide)
theorem Yw.nfoot (h : Yw w0 w y m s) (hq : At w q 26 cs) : q ∉ s.foot := fun hk => by
  unfold YS.foot at hk
  rcases List.mem_cons.1 hk with e | hk
  · subst e; exact absurd (h.yd.at_.inj hq).1 (by decide)
  · rcases List.mem_cons.1 hk with e | hk
    · exact (off3 h.yd.wt.pt hq).2.2 e.symm
    · cases hv : s.wv.ownBlock with
      | none => rw [hv] at hk; simp at hk
      | some g => rw [hv] at hk; simp at hk; exact own_ne h.yd.wt.own hq (by decide) g hv hk.symm
theorem Yw.off (h : Yw w0 w y m s) (hq : At w q 26 cs) (hq0 : w0.heap.size ≤ q) (f : Fr [q] w w') : Yw w0 w' y m s := by
  have a1 := off3 h.yd.wt.pt hq
  have a2 := off3 h.yd.bt.pt hq
  have a3 := own_ne h.yd.wt.own hq (by decide)
  have a4 := own_ne h.yd.bt.own hq (by decide)
  have a5 : s.y ≠ q := fun e => by have := h.yd.at_; rw [e] at this; exact absurd (this.inj hq).1 (by decide)
  exact ⟨⟨h.yd.at_.fr f (by simpa using a5), h.yd.wt.fr f (by simpa using a1.1) (by simpa using a1.2.1) (by simpa using a1.2.2) (fun g hg => by simpa using a3 g hg), h.yd.bt.fr f (by simpa using a2.1) (by simpa using a2.2.1) (by simpa using a2.2.2) (fun g hg => by simpa using a4 g hg), h.yd.ne, h.yd.apart, h.yd.up, h.yd.few⟩, h.f.trans f (by simp; omega), h.y0, h.c0, h.own, h.yy, h.ms⟩
end
set_option maxHeartbeats 4000000 in
set_option maxRecDepth 100000 in
theorem walk0 (a1 : Option Addr) (b off len1 cap1 : Nat) (z1 : List Int) (w : World) (ha1 : len1 = 0 ∨ a1 = some ⟨b, off, none⟩) (hlen : len1 ≤ 9223372036854775807) (hzl : z1.length = len1) (hwf : ∀ z ∈ z1, (Lit.int .u8 z).wf = true) (hb : 0 < len1 → b < w.heap.size) (hc : ∀ i, i < len1 → w.cell? ⟨b, off + i, none⟩ = some (.int .u8 (z1.getD i 0))) :
    Calls Try.prog 3 #[.slice a1 len1 cap1] w fun e w' => e = .returned (.bool true) ∧ Fr [] w w' := by
  have hz := zero200
  have Hc := Lib.hid fun i (hi : i < len1) => show ∃ z : Int, w.cell? ⟨b, off + i, none⟩ = some (.int .u8 z) ∧ 0 ≤ z ∧ z ≤ 255 from
    ⟨_, hc i hi, by
      have := bounds_u8 (hwf (z1.getD i 0) (by
        rw [List.getD_eq_getElem?_getD, List.getElem?_eq_getElem (by rw [hzl]; exact hi)]
        exact List.getElem_mem _))
      exact this⟩
  have Hb := Lib.hid hb
  have HA1 := Lib.hid ha1
  have CN := Lib.hid fun W => (show Calls Try.prog 8 #[.int .i64 4096] W fun e w' => ∃ y s, e = .returned (.pointer (some ⟨y, 0, none⟩)) ∧ Yw W w' y ⟨256, 0, false, [], []⟩ s ∧ (∀ k ∈ s.foot, W.heap.size ≤ k) ∧ Fr [] W w' from new_m W 256 (by omega))
  clear hc hwf hzl hb ha1
  go_enter Try.func3, Try.ntmps3
  go_wp2_with fail
  refine (works_any _).mono ?_
  rintro e w1 ⟨rfl, hf1⟩
  have F1 := Lib.hid hf1
  clear hf1
  go_wp2_with fail
  refine (CN.out _).mono ?_
  rintro e w2 ⟨y, s0, rfl, h0, -, -⟩
  rw [ms0] at h0
  have hq0 := h0.f.size
  have hfa : Fr [] w2 (w2.alloc (.cells (ar fun _ => 0) 26)) := (by repeat (first | exact Fr.refl _ _ | assumption | refine Fr.trans0 ?_ (by assumption) | refine Fr.drewN ?_ _ | refine Fr.alloc ?_ _ | refine Fr.drew ?_))
  have hat := At.new w2 26 (ar fun _ => 0)
  have Y0 := Lib.hid (h0.fr hfa)
  clear CN h0 hfa
  obtain ⟨q, hq⟩ : ∃ q, w2.heap.size = q := ⟨_, rfl⟩
  rw [hq] at hat hq0
  have A0 := Lib.hid hat
  have HQ0 := Lib.hid hq0
  clear hat hq0
  go_wp2_with fail
  clear hz hq
  obtain ⟨w3, hw3⟩ : ∃ W, w2.alloc (.cells (ar fun _ => 0) 26) = W := ⟨_, rfl⟩
  rw [hw3] at A0 Y0 ⊢
  clear hw3
  go_loopw [5, 6] (fun sw i wr => ∃ (k ep : Nat) (b : Bool) (f : Nat → Nat) (s : YS), k ≤ 60 ∧ k ≤ len1 ∧ ep ≤ k ∧ sw = .bool b ∧ i = .int .i64 k ∧ Fit f b ∧ Yw w1 wr y (ms ep b f) s ∧ At wr q 26 (ar f)) (fun _ i _ => len1 - (intOf i).toNat)
  case atStart => exact ⟨0, 0, false, _, _, by omega, by omega, by omega, rfl, rfl, fit0, Y0.out, A0.out⟩
  case round =>
    clear A0 Y0
    obtain ⟨k, ep, sb, f, s, hk, hkl, hep, rfl, rfl, hfit, hy, hat⟩ := hrel
    have HY := Lib.hid hy
    have HA := Lib.hid hat
    have HFT := Lib.hid hfit
    clear hy hat hfit
    by_cases h1 : k < len1
    · by_cases h2 : k < 60
      · obtain rfl : a1 = some ⟨b, off, none⟩ := HA1.out.resolve_left (by omega)
        obtain ⟨z, hz, z0, z1'⟩ := Hc.out k h1
        have HFW := Lib.hid (F1.out.trans0 HY.out.f)
        replace hz := (HFW.out.cell (a := ⟨b, _, none⟩) (Hb.out (by omega)) (by simp)).trans hz
        obtain ⟨x, rfl⟩ := Int.eq_ofNat_of_zero_le z0
        clear HFW
        by_cases hx : x < 200
        · have hxi : (x : Int) < 200 := by omega
          have v1 : IntKind.u32.wrap (x : Int) = x := by simp [IntKind.wrap, IntKind.signed, IntKind.bits]; omega
          obtain ⟨X, hX⟩ : ∃ X, 16 * x = X := ⟨_, rfl⟩
          have v2 : IntKind.u32.wrap (16 * (x : Int)) = (X : Int) := by simp [IntKind.wrap, IntKind.signed, IntKind.bits]; omega
          have HFB := frB_ms ep sb f HFT.out x hx
          rw [hX] at HFB
          have hcx := (HA.out.cell x).trans (ar_get _ x hx)
          have hzx := HA.out.froz x
          by_cases h0 : f x = 0
          · rw [h0] at hcx HFB
            have CF := Lib.hid fun W s (h : Yw w1 W y (ms ep sb f) s) => (show Calls Try.prog 9 #[.pointer (some ⟨y, 0, none⟩), .agg #[.int .u32 (X : Int), .int .u32 16]] W fun e w' => e = .returned (.bool true) ∧ ∃ s', Turn w1 W y s (ms ep sb (setN f x 1)) w' s' from by
              have h := free_m h X 16 (by omega) (by omega)
              rw [HFB, ← hX, (free_ms ep sb f HFT.out x hx h0).1, hX] at h
              exact h)
            clear HFB hX
            go_wp2_with fail
            refine wp_region_L (fun W => At W q 26 (ar f)) [] (by kernel_rfl) (HA.out.hp rfl) (fun hHeld => ?_)
            refine wpAnyL_take (i := 0) (v := ?_) rfl (by kernel_rfl) (fun _ _ _ h => h) (Or.inl ⟨by rfl, ?_⟩) (by assumption) ?_; rotate_left; (focus (intro w hSw; skip; go_simp; (try with_reducible rfl))); (try (refine wpAnyL_norm (by simp only [Act.put, List.setIfInBounds_toArray, List.set_cons_zero, List.set_cons_succ]; rfl) ?_))
            refine wpAnyL_take (i := 1) (v := ?_) rfl (by kernel_rfl) (fun _ _ _ h => h) (Or.inl ⟨by rfl, ?_⟩) (by assumption) ?_; rotate_left; (focus (intro w hSw; skip; go_simp; (try with_reducible rfl))); (try (refine wpAnyL_norm (by simp only [Act.put, List.setIfInBounds_toArray, List.set_cons_zero, List.set_cons_succ]; rfl) ?_))
            refine wpAnyL_take (i := 2) (v := ?_) rfl (by kernel_rfl) (fun _ _ _ h => h) (Or.inl ⟨by rfl, ?_⟩) (by assumption) ?_; rotate_left; (focus (intro w hSw; skip; go_simp; (try with_reducible rfl))); (try (refine wpAnyL_norm (by simp only [Act.put, List.setIfInBounds_toArray, List.set_cons_zero, List.set_cons_succ]; rfl) ?_))
            refine wpAnyL_take (i := 3) (v := ?_) rfl (by kernel_rfl) (fun _ _ _ h => h) (Or.inl ⟨by rfl, ?_⟩) (by assumption) ?_; rotate_left; (focus (intro w hSw; skip; go_simp; (try with_reducible rfl))); (try (refine wpAnyL_norm (by simp only [Act.put, List.setIfInBounds_toArray, List.set_cons_zero, List.set_cons_succ]; rfl) ?_))
            refine wpAnyL_take (i := 6) (v := ?_) rfl (by kernel_rfl) (fun _ _ _ h => h) (Or.inl ⟨by rfl, ?_⟩) (by assumption) ?_; rotate_left; (focus (intro w hSw; skip; go_simp; (try with_reducible rfl))); (try (refine wpAnyL_norm (by simp only [Act.put, List.setIfInBounds_toArray, List.set_cons_zero, List.set_cons_succ]; rfl) ?_))
            refine wpAnyL_take (i := 7) (v := ?_) rfl (by kernel_rfl) (fun _ _ _ h => h) (Or.inl ⟨by rfl, ?_⟩) (by assumption) ?_; rotate_left; (focus (intro w hSw; skip; go_simp; (try with_reducible rfl))); (try (refine wpAnyL_norm (by simp only [Act.put, List.setIfInBounds_toArray, List.set_cons_zero, List.set_cons_succ]; rfl) ?_))
            refine wpAnyL_take (i := 8) (v := ?_) rfl (by kernel_rfl) (fun _ _ _ h => h) (Or.inl ⟨by rfl, ?_⟩) (by assumption) ?_; rotate_left; (focus (intro w hSw; (have cc := (hSw.cell x).trans (ar_get _ x hx)); rw [h0] at cc; go_simp; (try with_reducible rfl))); (try (refine wpAnyL_norm (by simp only [Act.put, List.setIfInBounds_toArray, List.set_cons_zero, List.set_cons_succ]; rfl) ?_))
            refine wpAnyL_take (i := 9) (v := ?_) rfl (by kernel_rfl) (fun _ _ _ h => h) (Or.inl ⟨by rfl, ?_⟩) (by assumption) ?_; rotate_left; (focus (intro w hSw; skip; go_simp; (try with_reducible rfl))); (try (refine wpAnyL_norm (by simp only [Act.put, List.setIfInBounds_toArray, List.set_cons_zero, List.set_cons_succ]; rfl) ?_))
            refine wpAnyL_ready (rs := [4]) (by kernel_rfl) (by simp) ?_; refine AllReadyL.cons rfl (fun K hK => ?_) AllReadyL.nil
            go_simp
            refine (region_any _ _ _).mono ?_
            rintro e w4 ⟨rfl, hf4⟩
            have hg4 := (Fr.refl [] wr).drew.trans0 hf4
            have hq4 := hHeld.fr hf4 (by simp)
            refine hK.out _ _ (fun _ => hq4) (fun hHeld' => ?_); have hHeld := hHeld' (by decide); clear hHeld' hK K; (try (refine wpAnyL_norm (by simp only [Act.put, List.setIfInBounds_toArray, List.set_cons_zero, List.set_cons_succ]; rfl) ?_))
            refine wpAnyL_ready (rs := [5]) (by kernel_rfl) (by simp) ?_; refine AllReadyL.cons rfl (fun K hK => ?_) AllReadyL.nil
            go_simp
            refine (CF.out _ _ (HY.out.fr hg4)).mono ?_
            rintro e w5 ⟨rfl, s5, h5⟩
            have hq5 := hHeld.fr h5.f (by simpa using Yw.nfoot (HY.out.fr hg4) hHeld)
            have Y5 := Lib.hid h5.yw
            have A5 := Lib.hid hq5
            refine hK.out _ _ (fun _ => hq5) (fun hHeld' => ?_); have hHeld := hHeld' (by decide); clear hHeld' hK K; (try (refine wpAnyL_norm (by simp only [Act.put, List.setIfInBounds_toArray, List.set_cons_zero, List.set_cons_succ]; rfl) ?_))
            refine wpAnyL_take (i := 10) (v := ?_) rfl (by kernel_rfl) (fun _ _ _ h => h) (Or.inl ⟨by rfl, ?_⟩) (by assumption) ?_; rotate_left; (focus (intro w hSw; skip; go_simp; (try with_reducible rfl))); (try (refine wpAnyL_norm (by simp only [Act.put, List.setIfInBounds_toArray, List.set_cons_zero, List.set_cons_succ]; rfl) ?_))
            refine wpAnyL_done (by kernel_rfl) ?_ _
            clear hzx
            have hcx := (A5.out.cell x).trans (ar_get _ x hx)
            rw [h0] at hcx
            have hzx := A5.out.froz x
            go_wp2_with fail
            go_roundw
            case rel =>
              have F6 := (Fr.refl [q] w5).set (.inl (by simp)) (a := ⟨q, x, none⟩) (.int .i64 1)
              have A6 := A5.out.set x (.int .i64 1)
              rw [show (Value.int .i64 1) = .int .i64 ((1 : Nat) : Int) from rfl, ar_set] at A6
              exact ⟨k + 1, ep, sb, _, s5, by omega, by omega, by omega, rfl, by go_num, (free_ms ep sb f HFT.out x hx h0).2, Yw.off Y5.out A5.out HQ0.out F6, A6⟩
            case measure => simp [intOf]; omega
          · have CF := Lib.hid fun W s (h : Yw w1 W y (ms ep sb f) s) => (show Calls Try.prog 9 #[.pointer (some ⟨y, 0, none⟩), .agg #[.int .u32 (X : Int), .int .u32 16]] W fun e w' => e = .returned (.bool false) ∧ ∃ s', Turn w1 W y s (ms ep sb f) w' s' from by
              have h := free_m h X 16 (by omega) (by omega)
              rw [HFB, ← hX, free_no ep sb f HFT.out x hx h0, hX, show (f x == 0) = false by simpa using h0] at h
              exact h)
            obtain ⟨F, hF⟩ : ∃ F, f x = F := ⟨_, rfl⟩
            rw [hF] at h0 hcx
            have d0 : ((F : Int) == 0) = false := by simp; omega
            clear HFB hX h0
            have h0 := hF
            have H0 := Lib.hid hF
            clear hF
            go_wp2_with fail
            refine wp_region_L (fun W => At W q 26 (ar f)) [] (by kernel_rfl) (HA.out.hp rfl) (fun hHeld => ?_)
            refine wpAnyL_take (i := 0) (v := ?_) rfl (by kernel_rfl) (fun _ _ _ h => h) (Or.inl ⟨by rfl, ?_⟩) (by assumption) ?_; rotate_left; (focus (intro w hSw; skip; go_simp; (try with_reducible rfl))); (try (refine wpAnyL_norm (by simp only [Act.put, List.setIfInBounds_toArray, List.set_cons_zero, List.set_cons_succ]; rfl) ?_))
            refine wpAnyL_take (i := 1) (v := ?_) rfl (by kernel_rfl) (fun _ _ _ h => h) (Or.inl ⟨by rfl, ?_⟩) (by assumption) ?_; rotate_left; (focus (intro w hSw; skip; go_simp; (try with_reducible rfl))); (try (refine wpAnyL_norm (by simp only [Act.put, List.setIfInBounds_toArray, List.set_cons_zero, List.set_cons_succ]; rfl) ?_))
            refine wpAnyL_take (i := 2) (v := ?_) rfl (by kernel_rfl) (fun _ _ _ h => h) (Or.inl ⟨by rfl, ?_⟩) (by assumption) ?_; rotate_left; (focus (intro w hSw; skip; go_simp; (try with_reducible rfl))); (try (refine wpAnyL_norm (by simp only [Act.put, List.setIfInBounds_toArray, List.set_cons_zero, List.set_cons_succ]; rfl) ?_))
            refine wpAnyL_take (i := 3) (v := ?_) rfl (by kernel_rfl) (fun _ _ _ h => h) (Or.inl ⟨by rfl, ?_⟩) (by assumption) ?_; rotate_left; (focus (intro w hSw; skip; go_simp; (try with_reducible rfl))); (try (refine wpAnyL_norm (by simp only [Act.put, List.setIfInBounds_toArray, List.set_cons_zero, List.set_cons_succ]; rfl) ?_))
            refine wpAnyL_take (i := 6) (v := ?_) rfl (by kernel_rfl) (fun _ _ _ h => h) (Or.inl ⟨by rfl, ?_⟩) (by assumption) ?_; rotate_left; (focus (intro w hSw; skip; go_simp; (try with_reducible rfl))); (try (refine wpAnyL_norm (by simp only [Act.put, List.setIfInBounds_toArray, List.set_cons_zero, List.set_cons_succ]; rfl) ?_))
            refine wpAnyL_take (i := 7) (v := ?_) rfl (by kernel_rfl) (fun _ _ _ h => h) (Or.inl ⟨by rfl, ?_⟩) (by assumption) ?_; rotate_left; (focus (intro w hSw; skip; go_simp; (try with_reducible rfl))); (try (refine wpAnyL_norm (by simp only [Act.put, List.setIfInBounds_toArray, List.set_cons_zero, List.set_cons_succ]; rfl) ?_))
            refine wpAnyL_take (i := 8) (v := ?_) rfl (by kernel_rfl) (fun _ _ _ h => h) (Or.inl ⟨by rfl, ?_⟩) (by assumption) ?_; rotate_left; (focus (intro w hSw; (have cc := (hSw.cell x).trans (ar_get _ x hx)); rw [h0] at cc; go_simp; (try with_reducible rfl))); (try (refine wpAnyL_norm (by simp only [Act.put, List.setIfInBounds_toArray, List.set_cons_zero, List.set_cons_succ]; rfl) ?_))
            refine wpAnyL_take (i := 9) (v := ?_) rfl (by kernel_rfl) (fun _ _ _ h => h) (Or.inl ⟨by rfl, ?_⟩) (by assumption) ?_; rotate_left; (focus (intro w hSw; skip; go_simp; (try with_reducible rfl))); (try (refine wpAnyL_norm (by simp only [Act.put, List.setIfInBounds_toArray, List.set_cons_zero, List.set_cons_succ]; rfl) ?_))
            refine wpAnyL_ready (rs := [4]) (by kernel_rfl) (by simp) ?_; refine AllReadyL.cons rfl (fun K hK => ?_) AllReadyL.nil
            go_simp
            refine (region_any _ _ _).mono ?_
            rintro e w4 ⟨rfl, hf4⟩
            have hg4 := (Fr.refl [] wr).drew.trans0 hf4
            have hq4 := hHeld.fr hf4 (by simp)
            refine hK.out _ _ (fun _ => hq4) (fun hHeld' => ?_); have hHeld := hHeld' (by decide); clear hHeld' hK K; (try (refine wpAnyL_norm (by simp only [Act.put, List.setIfInBounds_toArray, List.set_cons_zero, List.set_cons_succ]; rfl) ?_))
            refine wpAnyL_ready (rs := [5]) (by kernel_rfl) (by simp) ?_; refine AllReadyL.cons rfl (fun K hK => ?_) AllReadyL.nil
            go_simp
            refine (CF.out _ _ (HY.out.fr hg4)).mono ?_
            rintro e w5 ⟨rfl, s5, h5⟩
            have hq5 := hHeld.fr h5.f (by simpa using Yw.nfoot (HY.out.fr hg4) hHeld)
            have Y5 := Lib.hid h5.yw
            have A5 := Lib.hid hq5
            refine hK.out _ _ (fun _ => hq5) (fun hHeld' => ?_); have hHeld := hHeld' (by decide); clear hHeld' hK K; (try (refine wpAnyL_norm (by simp only [Act.put, List.setIfInBounds_toArray, List.set_cons_zero, List.set_cons_succ]; rfl) ?_))
            refine wpAnyL_take (i := 10) (v := ?_) rfl (by kernel_rfl) (fun _ _ _ h => h) (Or.inl ⟨by rfl, ?_⟩) (by assumption) ?_; rotate_left; (focus (intro w hSw; skip; go_simp; (try with_reducible rfl))); (try (refine wpAnyL_norm (by simp only [Act.put, List.setIfInBounds_toArray, List.set_cons_zero, List.set_cons_succ]; rfl) ?_))
            refine wpAnyL_done (by kernel_rfl) ?_ _
            clear hzx
            have hcx := (A5.out.cell x).trans (ar_get _ x hx)
            rw [H0.out] at hcx
            have hzx := A5.out.froz x
            go_wp2_with fail
            go_roundw
            case rel => exact ⟨k + 1, ep, sb, f, s5, by omega, by omega, by omega, rfl, by go_num, HFT.out, Y5.out, A5.out⟩
            case measure => simp [intOf]; omega
        · by_cases hx2 : x < 228
          · have hxi : ¬ (x : Int) < 200 := by omega
            have hxj : (x : Int) < 228 := by omega
            cases sb with
            | true =>
              have CB := Lib.hid fun W s (h : Yw w1 W y (ms ep true f) s) => (show Calls Try.prog 11 #[.pointer (some ⟨y, 0, none⟩)] W fun e w' => e = .returned (.tuple #[.int .u64 0, .bool false]) ∧ ∃ s', Turn w1 W y s (ms ep true f) w' s' from begin_m h (by dsimp only [ms]; omega))
              go_wp2_with fail
              refine (CB.out _ _ HY.out).mono ?_
              rintro e w5 ⟨rfl, s5, h5⟩
              have Y5 := Lib.hid h5.yw
              have A5 := Lib.hid (HA.out.fr h5.f (by simpa using Yw.nfoot HY.out HA.out))
              clear HY HA CB h5 hz
              go_wp2_with fail
              go_loopw [10] (fun kk wr => kk = .int .i64 0 ∧ Fr [] w5 wr) (fun kk _ => 200 - (intOf kk).toNat)
              case atStart => exact ⟨rfl, Fr.refl _ _⟩
              case round =>
                obtain ⟨rfl, hfj⟩ := hrel
                go_wp2_with fail
                go_roundw
                case rel => exact ⟨k + 1, ep, true, f, s5, by omega, by omega, by omega, rfl, by go_num, HFT.out, Y5.out.fr hfj, A5.out.fr hfj (by simp)⟩
                case measure => simp [intOf]; omega
            | false =>
              have CB := Lib.hid fun W s (h : Yw w1 W y (ms ep false f) s) => (show Calls Try.prog 11 #[.pointer (some ⟨y, 0, none⟩)] W fun e w' => (∃ E : Int, e = .returned (.tuple #[.int .u64 E, .bool true])) ∧ ∃ s', Turn w1 W y s (ms (ep + 1) true (trn f 1 2 200)) w' s' from by
                have h := begin_m h (by dsimp only [ms]; omega)
                rw [(begin_ms ep f HFT.out).1] at h
                exact h.mono fun e w' h => ⟨⟨_, h.1⟩, h.2⟩)
              go_wp2_with fail
              refine (CB.out _ _ HY.out).mono ?_
              rintro e w5 ⟨⟨E, rfl⟩, s5, h5⟩
              have Y5 := Lib.hid h5.yw
              have A5 := Lib.hid (HA.out.fr h5.f (by simpa using Yw.nfoot HY.out HA.out))
              clear HY HA CB h5 hz
              go_wp2_with fail
              go_loopw [10] (fun kk wr => ∃ j : Nat, j ≤ 200 ∧ kk = .int .i64 j ∧ Fr [q] w5 wr ∧ At wr q 26 (ar (trn f 1 2 j))) (fun kk _ => 200 - (intOf kk).toNat)
              case atStart => exact ⟨0, by omega, rfl, Fr.refl _ _, by rw [trn_zero]; exact A5.out⟩
              case round =>
                obtain ⟨j, hj, rfl, hfj, haj⟩ := hrel
                have HF := Lib.hid hfj
                have HJ := Lib.hid haj
                clear hfj haj
                by_cases hj2 : j < 200
                · have hcj := (HJ.out.cell j).trans (ar_get _ j hj2)
                  rw [trn_at] at hcj
                  by_cases hf1 : f j = 1
                  · have hzj := HJ.out.froz j
                    rw [hf1] at hcj
                    go_wp2_with fail
                    go_roundw
                    case rel =>
                      have A6 := HJ.out.set j (.int .i64 2)
                      rw [show (Value.int .i64 2) = .int .i64 ((2 : Nat) : Int) from rfl, ar_set, trn_yes hf1] at A6
                      exact ⟨j + 1, by omega, by go_num, HF.out.set (.inl (by simp)) _, A6⟩
                    case measure => simp [intOf]; omega
                  · obtain ⟨F, hF⟩ : ∃ F, f j = F := ⟨_, rfl⟩
                    rw [hF] at hcj
                    have d0 : ((F : Int) == 1) = false := by simp; omega
                    have HN := Lib.hid hf1
                    clear hF hf1
                    go_wp2_with fail
                    go_roundw
                    case rel => exact ⟨j + 1, by omega, by go_num, HF.out, by rw [← trn_no HN.out]; exact HJ.out⟩
                    case measure => simp [intOf]; omega
                · obtain rfl : j = 200 := by omega
                  go_wp2_with fail
                  go_roundw
                  case rel => exact ⟨k + 1, ep + 1, true, _, s5, by omega, by omega, by omega, rfl, by go_num, (begin_ms ep f HFT.out).2, Yw.off Y5.out A5.out HQ0.out HF.out, HJ.out⟩
                  case measure => simp [intOf]; omega
          · have hxi : ¬ (x : Int) < 200 := by omega
            have hxj : ¬ (x : Int) < 228 := by omega
            have CE := Lib.hid fun W s (h : Yw w1 W y (ms ep sb f) s) => (show Calls Try.prog 12 #[.pointer (some ⟨y, 0, none⟩)] W fun e w' => ∃ v, e = .returned v ∧ w'.ownsRow 0 30 2 v (fl f 2 200).length (rgv (fl f 2 200)) ∧ (∀ g, v.ownBlock = some g → g ∉ s.foot) ∧ ∃ s', Turn w1 W y s (ms ep false (trn f 2 0 200)) w' s' from by
              have h := end_m h
              rw [(end_ms ep sb f HFT.out).1, show (if (ms ep sb f).un = true then (ms ep sb f).lb else []) = fl f 2 200 from (end_ms ep sb f HFT.out).2.2] at h
              exact h)
            have hLs := fl_le f 2 200
            go_wp2_with fail
            refine (CE.out _ _ HY.out).mono ?_
            rintro e w5 ⟨v, rfl, ho, -, s5, h5⟩
            have Y5 := Lib.hid h5.yw
            have A5 := Lib.hid (HA.out.fr h5.f (by simpa using Yw.nfoot HY.out HA.out))
            have HO := Lib.hid ho
            obtain ⟨va, vc, rfl, -⟩ := own_slice ho
            clear HY HA CE h5 hz ho
            obtain ⟨L, hL⟩ : ∃ L, (fl f 2 200).length = L := ⟨_, rfl⟩
            rw [hL] at HO hLs ⊢
            have HL := Lib.hid hL
            clear hL
            go_wp2_with fail
            go_loopw [12, 13] (fun nn kk wr => ∃ j n : Nat, j ≤ 200 ∧ (fl f 2 j).length = n ∧ nn = .int .i64 n ∧ kk = .int .i64 j ∧ Fr [q] w5 wr ∧ At wr q 26 (ar (trn f 2 0 j))) (fun _ kk _ => 200 - (intOf kk).toNat)
            case atStart => exact ⟨0, 0, by omega, rfl, rfl, rfl, Fr.refl _ _, by rw [trn_zero]; exact A5.out⟩
            case round =>
              obtain ⟨j, n, hj, hn, rfl, rfl, hfj, haj⟩ := hrel
              have HF := Lib.hid hfj
              have HJ := Lib.hid haj
              have HN := Lib.hid hn
              clear hfj haj hn
              by_cases hj2 : j < 200
              · have hcj := (HJ.out.cell j).trans (ar_get _ j hj2)
                rw [trn_at] at hcj
                by_cases hf1 : f j = 2
                · have hget := fl_get hf1 (n := 200) hj2
                  rw [HN.out] at hget
                  have hnL : n < L := by
                    rw [← HL.out]
                    rcases Nat.lt_or_ge n (fl f 2 200).length with h | h
                    · exact h
                    · rw [List.getElem?_eq_none h] at hget; cases hget
                  have hoj := own_fr HO.out HF.out (fun g hg => by simpa using own_ne HO.out A5.out (by decide) g hg)
                  rcases rows_open hoj with ⟨_, h0⟩ | ⟨g, cap, cur, hv, -, hA, g1, g2, g3, g4⟩
                  · omega
                  · injection hv with e1 e2 e3
                    subst e1 e3
                    have v1 : IntKind.u32.wrap (j : Int) = j := by simp [IntKind.wrap, IntKind.signed, IntKind.bits]; omega
                    have q0 := rows_at (n := L) (cap := vc) hA g4 (n * 2) 0 (.int .u32 (16 * j : Nat)) (by rw [List.getElem?_drop]; exact (rgv_get _ n (rg j) hget).1)
                    have q1 := rows_at (n := L) (cap := vc) hA g4 (n * 2) 1 (.int .u32 (16 : Nat)) (by rw [List.getElem?_drop]; exact (rgv_get _ n (rg j) hget).2)
                    obtain ⟨X, hX⟩ : ∃ X, 16 * j = X := ⟨_, rfl⟩
                    rw [hX] at q0
                    have v2 : IntKind.u32.wrap (16 * (j : Int)) = (X : Int) := by simp [IntKind.wrap, IntKind.signed, IntKind.bits]; omega
                    have Q0 := Lib.hid q0
                    have Q1 := Lib.hid (show wr.cell? ⟨g, n * 2 + 1, none⟩ = some (.int .u32 16) from q1)
                    have hgl := hA.lt
                    have EQ := fun w => rg_eq (X : Int) 16 X 16 w
                    simp only [decide_true, Bool.and_true] at EQ
                    have HZ := Lib.hid (HJ.out.froz j)
                    rw [hf1] at hcj
                    have hni : (n : Int) < L := by omega
                    have hni2 : decide (L ≤ n) = false := by simp; omega
                    have HN1 := Lib.hid ((fl_yes hf1).symm ▸ (by rw [List.length_append, HN.out]; rfl) : (fl f 2 (j + 1)).length = n + 1)
                    have HN2 := Lib.hid (trn_yes (b := 0) hf1)
                    clear hX hoj hA g1 g2 g3 g4 q0 q1 hf1 hget
                    go_wp2_with fail
                    refine wp_region_L (fun W => Fr [] wr W) [] (by kernel_rfl) ((Fr.refl _ _).drew) (fun hHeld => ?_)
                    refine wpAnyL_take (i := 0) (v := ?_) rfl (by kernel_rfl) (fun _ _ _ h => h) (Or.inl ⟨by rfl, ?_⟩) (by assumption) ?_; rotate_left; (focus (intro w hSw; skip; go_simp; (try with_reducible rfl))); (try (refine wpAnyL_norm (by simp only [Act.put, List.setIfInBounds_toArray, List.set_cons_zero, List.set_cons_succ]; rfl) ?_))
                    refine wpAnyL_take (i := 1) (v := ?_) rfl (by kernel_rfl) (fun _ _ _ h => h) (Or.inl ⟨by rfl, ?_⟩) (by assumption) ?_; rotate_left; (focus (intro w hSw; skip; go_simp; (try with_reducible rfl))); (try (refine wpAnyL_norm (by simp only [Act.put, List.setIfInBounds_toArray, List.set_cons_zero, List.set_cons_succ]; rfl) ?_))
                    refine wpAnyL_take (i := 2) (v := ?_) rfl (by kernel_rfl) (fun _ _ _ h => h) (Or.inl ⟨by rfl, ?_⟩) (by assumption) ?_; rotate_left; (focus (intro w hSw; skip; go_simp; (try with_reducible rfl))); (try (refine wpAnyL_norm (by simp only [Act.put, List.setIfInBounds_toArray, List.set_cons_zero, List.set_cons_succ]; rfl) ?_))
                    refine wpAnyL_take (i := 3) (v := ?_) rfl (by kernel_rfl) (fun _ _ _ h => h) (Or.inl ⟨by rfl, ?_⟩) (by assumption) ?_; rotate_left; (focus (intro w hSw; skip; go_simp; (try with_reducible rfl))); (try (refine wpAnyL_norm (by simp only [Act.put, List.setIfInBounds_toArray, List.set_cons_zero, List.set_cons_succ]; rfl) ?_))
                    refine wpAnyL_take (i := 4) (v := ?_) rfl (by kernel_rfl) (fun _ _ _ h => h) (Or.inl ⟨by rfl, ?_⟩) (by assumption) ?_; rotate_left; (focus (intro w hSw; skip; go_simp; (try with_reducible rfl))); (try (refine wpAnyL_norm (by simp only [Act.put, List.setIfInBounds_toArray, List.set_cons_zero, List.set_cons_succ]; rfl) ?_))
                    refine wpAnyL_take (i := 5) (v := ?_) rfl (by kernel_rfl) (fun _ _ _ h => h) (Or.inl ⟨by rfl, ?_⟩) (by assumption) ?_; rotate_left; (focus (intro w hSw; skip; go_simp; (try with_reducible rfl))); (try (refine wpAnyL_norm (by simp only [Act.put, List.setIfInBounds_toArray, List.set_cons_zero, List.set_cons_succ]; rfl) ?_))
                    refine wpAnyL_take (i := 6) (v := ?_) rfl (by kernel_rfl) (fun _ _ _ h => h) (Or.inl ⟨by rfl, ?_⟩) (by assumption) ?_; rotate_left; (focus (intro w hSw; skip; go_simp; (try with_reducible rfl))); (try (refine wpAnyL_norm (by simp only [Act.put, List.setIfInBounds_toArray, List.set_cons_zero, List.set_cons_succ]; rfl) ?_))
                    refine wpAnyL_take (i := 7) (v := ?_) rfl (by kernel_rfl) (fun _ _ _ h => h) (Or.inl ⟨by rfl, ?_⟩) (by assumption) ?_; rotate_left; (focus (intro w hSw; skip; go_simp; (try with_reducible rfl))); (try (refine wpAnyL_norm (by simp only [Act.put, List.setIfInBounds_toArray, List.set_cons_zero, List.set_cons_succ]; rfl) ?_))
                    refine wpAnyL_take (i := 8) rfl (by kernel_rfl) (fun _ _ _ h => h) (yields_load_at 30 (.tmp 48) rfl ⟨g, n * 2, none⟩ rfl [.int .u32 X, .int .u32 16] _ (fun W h j v hv => by
                        rw [Go.WideShapes.add_plain]
                        match j, hv with
                        | 0, hv => exact ((h.cell (a := ⟨g, n * 2 + 0, none⟩) hgl (by simp)).trans Q0.out).trans hv
                        | 1, hv => exact ((h.cell (a := ⟨g, n * 2 + 1, none⟩) hgl (by simp)).trans Q1.out).trans hv) Try.underlying30 rfl infoRgS rfl) (by assumption) ?_; (try (refine wpAnyL_norm (by simp only [Act.put, List.setIfInBounds_toArray, List.set_cons_zero, List.set_cons_succ]; rfl) ?_))
                    refine wpAnyL_take (i := 9) (v := ?_) rfl (by kernel_rfl) (fun _ _ _ h => h) (Or.inl ⟨by rfl, ?_⟩) (by assumption) ?_; rotate_left; (focus (intro w hSw; skip; go_simp; (try with_reducible rfl))); (try (refine wpAnyL_norm (by simp only [Act.put, List.setIfInBounds_toArray, List.set_cons_zero, List.set_cons_succ]; rfl) ?_))
                    refine wpAnyL_take (i := 10) (v := ?_) rfl (by kernel_rfl) (fun _ _ _ h => h) (Or.inl ⟨by rfl, ?_⟩) (by assumption) ?_; rotate_left; (focus (intro w hSw; skip; go_simp; (try with_reducible rfl))); (try (refine wpAnyL_norm (by simp only [Act.put, List.setIfInBounds_toArray, List.set_cons_zero, List.set_cons_succ]; rfl) ?_))
                    refine wpAnyL_take (i := 11) (v := ?_) rfl (by kernel_rfl) (fun _ _ _ h => h) (Or.inl ⟨by rfl, ?_⟩) (by assumption) ?_; rotate_left; (focus (intro w hSw; skip; go_simp; (try with_reducible rfl))); (try (refine wpAnyL_norm (by simp only [Act.put, List.setIfInBounds_toArray, List.set_cons_zero, List.set_cons_succ]; rfl) ?_))
                    refine wpAnyL_ready (rs := [12]) (by kernel_rfl) (by simp) ?_; refine AllReadyL.cons rfl (fun K hK => ?_) AllReadyL.nil
                    go_simp
                    refine (region_any _ _ _).mono ?_
                    rintro e w6 ⟨rfl, hf6⟩
                    refine hK.out _ _ (fun _ => (hHeld.trans0 hf6)) (fun hHeld' => ?_); have hHeld := hHeld' (by decide); clear hHeld' hK K; (try (refine wpAnyL_norm (by simp only [Act.put, List.setIfInBounds_toArray, List.set_cons_zero, List.set_cons_succ]; rfl) ?_))
                    refine wpAnyL_take (i := 13) (v := ?_) rfl (by kernel_rfl) (fun _ _ _ h => h) (Or.inl ⟨by rfl, ?_⟩) (by assumption) ?_; rotate_left; (focus (intro w hSw; skip; go_simp; (try with_reducible rfl))); (try (refine wpAnyL_norm (by simp only [Act.put, List.setIfInBounds_toArray, List.set_cons_zero, List.set_cons_succ]; rfl) ?_))
                    refine wpAnyL_take (i := 14) (v := ?_) rfl (by kernel_rfl) (fun _ _ _ h => h) (Or.inl ⟨by rfl, ?_⟩) (by assumption) ?_; rotate_left; (focus (intro w hSw; skip; go_simp; (try with_reducible rfl))); (try (refine wpAnyL_norm (by simp only [Act.put, List.setIfInBounds_toArray, List.set_cons_zero, List.set_cons_succ]; rfl) ?_))
                    refine wpAnyL_done (by kernel_rfl) ?_ _
                    have hg6 := hHeld
                    have hcj := (hHeld.cell (a := ⟨q, j, none⟩) HJ.out.lt (by simp)).trans hcj
                    have J6 := Lib.hid (HJ.out.fr hHeld (by simp))
                    have F6 := Lib.hid (HF.out.trans hHeld (by simp))
                    have hzj := J6.out.froz j
                    clear hHeld
                    go_wp2_with fail
                    go_roundw
                    case rel =>
                      have A6 := J6.out.set j (.int .i64 0)
                      rw [show (Value.int .i64 0) = .int .i64 ((0 : Nat) : Int) from rfl, ar_set, HN2.out] at A6
                      exact ⟨j + 1, n + 1, by omega, HN1.out, by go_num, by go_num, F6.out.set (.inl (by simp)) _, A6⟩
                    case measure => simp [intOf]; omega
                · obtain ⟨F, hF⟩ : ∃ F, f j = F := ⟨_, rfl⟩
                  rw [hF] at hcj
                  have d0 : ((F : Int) == 2) = false := by simp; omega
                  have HN1 := Lib.hid (fl_no hf1)
                  have HN2 := Lib.hid (trn_no (b := 0) hf1)
                  clear hF hf1
                  go_wp2_with fail
                  go_roundw
                  case rel => exact ⟨j + 1, n, by omega, by rw [HN1.out]; exact HN.out, rfl, by go_num, HF.out, by rw [← HN2.out]; exact HJ.out⟩
                  case measure => simp [intOf]; omega
              · obtain rfl : j = 200 := by omega
                obtain rfl : n = L := HN.out.symm.trans HL.out
                go_wp2_with fail
                go_roundw
                case rel => exact ⟨k + 1, ep, false, _, s5, by omega, by omega, by omega, rfl, by go_num, (end_ms ep sb f HFT.out).2.1, Yw.off Y5.out A5.out HQ0.out HF.out, HJ.out⟩
                case measure => simp [intOf]; omega
      · go_wp2_with fail
        go_ret
        exact ⟨rfl, F1.out.trans0 HY.out.f⟩
    · go_wp2_with fail
      go_ret
      exact ⟨rfl, F1.out.trans0 HY.out.f⟩
theorem walk (a1 : Option Addr) (len1 cap1 : Nat) (z1 : List Int) (w : World) (w1 : Ints .u8 w a1 len1 z1) :
    Calls Try.prog 3 #[.slice a1 len1 cap1] w fun e w' => e = .returned (.bool true) ∧ Fr [] w w' := by
  obtain ⟨h1, h2, h3, h4⟩ := w1
  rcases h4 with h4 | ⟨b, off, h5, h6, h7⟩
  · exact walk0 a1 0 0 len1 cap1 z1 w (.inl h4) h1 h2 h3 (fun h => by omega) (fun i hi => by omega)
  · exact walk0 a1 b off len1 cap1 z1 w (.inr h5) h1 h2 h3 (fun _ => h6) h7
theorem laidOut : laidOutB Try.prog = true := by kernel_rfl
set_option maxRecDepth 100000 in
theorem lifted (os : Os) (started : os.Started) (H : Type) (enc : TypeId × Value → H) :
    ReturnsInHanded {} Try.checked os 3 .any (Rows.quarantineOnceSpec.pre6 enc Try.prog Try.f3 Rows.quarantineOnceRow.domain false) (Rows.quarantineOnceSpec.post enc Try.prog Try.f3 false true false false) := by
  refine returnsInHanded_of_change (C := Try.checked) own started (by kernel_rfl) Try.func3
    (ChangeSpec.witness6 (enc := enc) (C := Try.checked) false ⟨#[], #[.slice none 0 0], []⟩ 8 (by kernel_rfl) (by kernel_rfl) (by kernel_rfl) (by kernel_rfl)) ?_
  intro W base args ds gs before hval0 hW hcnd _
  have hval : ∀ (j : Nat) t v, Try.f3.params[j]? = some t → args[j]? = some v → Value.okWide Try.prog W .any base t v := hval0
  have hW' := hW
  obtain ⟨p, q, hA0, hV, rfl, hfz, hnd⟩ := hW
  have hA : DataW.TrodAll enc Try.prog W 0 (fun _ => true) true Try.f3.params.toList args.toList ds p := hA0
  rw [Try.params3] at hA hval
  obtain ⟨v0, vs0, d0, ds0, p0, q0, hargs, rfl, rfl, h0, r0⟩ := trodAll_cons hA
  obtain ⟨rfl, rfl, rfl⟩ := trodAll_nil r0
  obtain rfl : args = #[v0] := by cases args; simp_all
  obtain ⟨rfl, rfl⟩ := trodVars_none hV
  obtain ⟨a0, len0, cap0, rfl⟩ := okWide_slice Try.underlying22 (hval 0 22 v0 rfl rfl)
  have k0 := h0
  have lt0 : ∀ x ∈ p0, x.block < W.heap.size := by obtain ⟨m, hm⟩ := k0; exact DataW.trod_lt m _ _ _ hm
  obtain ⟨z0, w0⟩ : ∃ zs, Ints .u8 W a0 len0 zs := by
    obtain ⟨fuel, hf⟩ := h0
    rcases open_ints Try.underlying22 Try.underlying5 (by kernel_rfl) hf with ⟨hcs, _⟩ | ⟨x, l, c, zs, hcs, _, hl, hm, hz, _, hcell, hwz⟩
    · simp [Value.cells] at hcs
      obtain ⟨rfl, rfl, rfl⟩ := hcs
      exact ⟨[], Ints.nil _⟩
    · simp [Value.cells] at hcs
      obtain ⟨rfl, rfl, rfl⟩ := hcs
      exact ⟨zs.take len0, Ints.of hl hm (by simpa using hz) hcell hwz⟩
  clear hA0 hval0
  refine (walk a0 len0 cap0 z0 W w0).mono fun e W' ⟨he, hg⟩ => ?_
  subst he
  have bel := hg.below
  exact ⟨_, rfl, _, _, _, [], _, [], hW', trodAll_mk1 (shut_bool Try.underlying4 _), (trodAll_cons_mk (Below.trod laidOut (by kernel_rfl) (of_decide_eq_true (by kernel_rfl)) k0 bel lt0) trodAll_mk0), rfl, bel.frame _, fun h => by cases h⟩
theorem over : Rows.quarantineOnceRow.holds Try.pinned (OpenSpec.ofChange Rows.quarantineOnceSpec) :=
  OpenClaim.holds_of_wide 3 Try.f3 rfl rfl rfl rfl rfl rfl rfl ⟨rfl, rfl, rfl, rfl, rfl⟩ rfl rfl rfl rfl rfl (by kernel_rfl) Try.func3 (by kernel_rfl)
    (of_decide_eq_true (by kernel_rfl)) (by unfold Func.isWrapper; first | (rw [if_pos (by decide +kernel)]; kernel_rfl) | (rw [if_neg (by decide +kernel)]; exact ⟨rfl, rfl⟩))
    (fun os started H enc _ => lifted os started H enc)
/-- The statement, proved. -/
theorem proved : Rows.QuarantineOnceSaid :=
  over
end quarantineOnce
end Go.Proofs.Ytflhpgfnffmimaa
