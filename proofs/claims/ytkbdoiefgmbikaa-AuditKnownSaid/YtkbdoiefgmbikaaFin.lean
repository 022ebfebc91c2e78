/-
  The event EvEnd, in a history. No condition.
-/


import Derived.Test.YtkbdoiefgmbikaaPast
import Derived.Deep.CutBlock
import Derived.Deep.DeepCutAuto
import Derived.BigRegion
set_option linter.unusedVariables false
namespace Go.Proofs.Ytkbdoiefgmbikaa
open Go.ChangeShapes Go.WideShapes Go.ChangeAt Go.RowKit
theorem good_end {x : Sx} {e : Ev} {i : Nat} (h : x.Good i) (h1 : e.a < 4294967296) (h2 : e.s < 4294967296) : (endS x e).2.Good (i + 1) := by
  have := good_see (ha := 0) (hs := 0) (e := { e with kind := 7 }) h h1 h2
  unfold seeS at this
  rw [if_neg (show ¬ (7 : Int) = 2 by decide), if_neg (show ¬ (7 : Int) = 3 by decide), if_neg (show ¬ (7 : Int) = 6 by decide), if_neg (show ¬ (7 : Int) = 4 by decide), if_pos rfl] at this
  exact this
set_option maxHeartbeats 4000000 in
set_option maxRecDepth 100000 in
theorem pfin_any (w : World) (p bg ba ha hs : Nat) (x : Sx) (i : Nat) (h : Past w p bg ba ha hs x i) (hi : i < 1048576) (e : Ev) (he : e.Ok) :
    Calls Try.prog 49 #[.pointer (some ⟨p, 0, none⟩), .agg e.cells] w fun r w' => r = .returned (.int .i64 (endS x e).1) ∧ Past w' p bg ba ha hs (endS x e).2 (i + 1) ∧ Fr [p, ba] w w' := by
  have hlp := h.at_.lt
  have hlg := h.gm.lt
  have hla := h.am.lt
  have HP := Lib.hid h
  have HM := Lib.hid h.more
  have hb1 := h.h1
  have hb2 := h.h2
  obtain ⟨he1, he2, he3, he4, _, _⟩ := he
  have GG := Lib.hid (good_end h.good he1 he2)
  have A3 := Lib.hid (At.new w 41 e.cells)
  have F3 := Lib.hid (show Fr [] w (w.alloc (.cells e.cells 41)) from (by repeat (first | exact Fr.refl _ _ | assumption | refine Fr.trans0 ?_ (by assumption) | refine Fr.drewN ?_ _ | refine Fr.alloc ?_ _ | refine Fr.drew ?_)))
  have AP := Lib.hid (h.at_.fr F3.out (by simp))
  have hbp : bg ≠ p := h.gm.ne h.at_
  have hap : ba ≠ p := h.am.ne h.at_
  have hba := h.ne
  clear h
  obtain ⟨R, hR⟩ : ∃ R, endS x e = R := ⟨_, rfl⟩
  rw [hR] at GG ⊢
  unfold endS at hR
  obtain ⟨B1, hB1⟩ : ∃ B, x.sw = B := ⟨_, rfl⟩
  obtain ⟨B2, hB2⟩ : ∃ B, ((e.num : Int) != (x.sws : Int)) = B := ⟨_, rfl⟩
  have hB2N : B2 = true ↔ e.num ≠ x.sws := by rw [← hB2, bne_iff_ne]; omega
  go_enter Try.func49, Try.ntmps49
  simp only [Ev.cells]
  go_wp2_with fail
  refine wp_region_L (fun W => At W w.heap.size 41 e.cells ∧ At W p 76 (x.cells ha hs bg ba) ∧ Fr [] w W) [] (by kernel_rfl) ⟨A3.out.hp rfl, AP.out.hp rfl, F3.out.drew⟩ (fun hHeld => ?_)
  refine wpAnyL_take (i := 0) (v := ?_) rfl (by kernel_rfl) (fun _ _ _ h => h) (Or.inl ⟨by rfl, ?_⟩) (by assumption) ?_; rotate_left; (focus (intro w hSw; skip; go_simp; (try with_reducible rfl))); (try (refine wpAnyL_norm (by simp only [Act.put, List.setIfInBounds_toArray, List.set_cons_zero, List.set_cons_succ]; rfl) ?_))
  refine wpAnyL_take (i := 1) (v := ?_) rfl (by kernel_rfl) (fun _ _ _ h => h) (Or.inl ⟨by rfl, ?_⟩) (by assumption) ?_; rotate_left; (focus (intro w hSw; skip; go_simp; (try with_reducible rfl))); (try (refine wpAnyL_norm (by simp only [Act.put, List.setIfInBounds_toArray, List.set_cons_zero, List.set_cons_succ]; rfl) ?_))
  refine wpAnyL_take (i := 2) (v := ?_) rfl (by kernel_rfl) (fun _ _ _ h => h) (Or.inl ⟨by rfl, ?_⟩) (by assumption) ?_; rotate_left; (focus (intro w hSw; skip; go_simp; (try with_reducible rfl))); (try (refine wpAnyL_norm (by simp only [Act.put, List.setIfInBounds_toArray, List.set_cons_zero, List.set_cons_succ]; rfl) ?_))
  refine wpAnyL_take (i := 3) (v := ?_) rfl (by kernel_rfl) (fun _ _ _ h => h) (Or.inl ⟨by rfl, ?_⟩) (by assumption) ?_; rotate_left; (focus (intro w hSw; have c : _ = some (Value.bool x.sw) := hSw.2.1.cell 4; go_simp; (try with_reducible rfl))); (try (refine wpAnyL_norm (by simp only [Act.put, List.setIfInBounds_toArray, List.set_cons_zero, List.set_cons_succ]; rfl) ?_))
  cases B1
  · refine wpAnyL_take (i := 4) (v := ?_) rfl (by kernel_rfl) (fun _ _ _ h => h) (Or.inl ⟨by rfl, ?_⟩) (by assumption) ?_; rotate_left; (focus (intro w hSw; skip; go_simp; (try with_reducible rfl))); (try (refine wpAnyL_norm (by simp only [Act.put, List.setIfInBounds_toArray, List.set_cons_zero, List.set_cons_succ]; rfl) ?_))
    refine wpAnyL_take (i := 5) (v := ?_) rfl (by kernel_rfl) (fun _ _ _ h => h) (Or.inl ⟨by rfl, ?_⟩) (by assumption) ?_; rotate_left; (focus (intro w hSw; skip; go_simp; (try with_reducible rfl))); (try (refine wpAnyL_norm (by simp only [Act.put, List.setIfInBounds_toArray, List.set_cons_zero, List.set_cons_succ]; rfl) ?_))
    refine wpAnyL_take (i := 6) (v := undef) rfl (by kernel_rfl) (fun _ _ _ h => h) (Or.inr ⟨by rfl, rfl⟩) (by assumption) ?_; (try (refine wpAnyL_norm (by simp only [Act.put, List.setIfInBounds_toArray, List.set_cons_zero, List.set_cons_succ]; rfl) ?_))
    refine wpAnyL_take (i := 7) (v := undef) rfl (by kernel_rfl) (fun _ _ _ h => h) (Or.inr ⟨by rfl, rfl⟩) (by assumption) ?_; (try (refine wpAnyL_norm (by simp only [Act.put, List.setIfInBounds_toArray, List.set_cons_zero, List.set_cons_succ]; rfl) ?_))
    refine wpAnyL_take (i := 8) (v := undef) rfl (by kernel_rfl) (fun _ _ _ h => h) (Or.inr ⟨by rfl, rfl⟩) (by assumption) ?_; (try (refine wpAnyL_norm (by simp only [Act.put, List.setIfInBounds_toArray, List.set_cons_zero, List.set_cons_succ]; rfl) ?_))
    refine wpAnyL_take (i := 9) (v := undef) rfl (by kernel_rfl) (fun _ _ _ h => h) (Or.inr ⟨by rfl, rfl⟩) (by assumption) ?_; (try (refine wpAnyL_norm (by simp only [Act.put, List.setIfInBounds_toArray, List.set_cons_zero, List.set_cons_succ]; rfl) ?_))
    refine wpAnyL_take (i := 10) (v := undef) rfl (by kernel_rfl) (fun _ _ _ h => h) (Or.inr ⟨by rfl, rfl⟩) (by assumption) ?_; (try (refine wpAnyL_norm (by simp only [Act.put, List.setIfInBounds_toArray, List.set_cons_zero, List.set_cons_succ]; rfl) ?_))
    refine wpAnyL_take (i := 11) (v := undef) rfl (by kernel_rfl) (fun _ _ _ h => h) (Or.inr ⟨by rfl, rfl⟩) (by assumption) ?_; (try (refine wpAnyL_norm (by simp only [Act.put, List.setIfInBounds_toArray, List.set_cons_zero, List.set_cons_succ]; rfl) ?_))
    refine wpAnyL_take (i := 12) (v := undef) rfl (by kernel_rfl) (fun _ _ _ h => h) (Or.inr ⟨by rfl, rfl⟩) (by assumption) ?_; (try (refine wpAnyL_norm (by simp only [Act.put, List.setIfInBounds_toArray, List.set_cons_zero, List.set_cons_succ]; rfl) ?_))
    refine wpAnyL_take (i := 13) (v := ?_) rfl (by kernel_rfl) (fun _ _ _ h => h) (Or.inl ⟨by rfl, ?_⟩) (by assumption) ?_; rotate_left; (focus (intro w hSw; skip; go_simp; (try with_reducible rfl))); (try (refine wpAnyL_norm (by simp only [Act.put, List.setIfInBounds_toArray, List.set_cons_zero, List.set_cons_succ]; rfl) ?_))
    refine wpAnyL_done (by kernel_rfl) ?_ _
    go_wp2_with fail
    go_ret
    rw [if_pos (.inl hB1)] at hR
    rw [← hR]
    exact ⟨rfl, HM.out.fr0 hHeld.2.2, hHeld.2.2.more (by simp)⟩
  · refine wpAnyL_take (i := 4) (v := ?_) rfl (by kernel_rfl) (fun _ _ _ h => h) (Or.inl ⟨by rfl, ?_⟩) (by assumption) ?_; rotate_left; (focus (intro w hSw; skip; go_simp; (try with_reducible rfl))); (try (refine wpAnyL_norm (by simp only [Act.put, List.setIfInBounds_toArray, List.set_cons_zero, List.set_cons_succ]; rfl) ?_))
    refine wpAnyL_take (i := 5) (v := ?_) rfl (by kernel_rfl) (fun _ _ _ h => h) (Or.inl ⟨by rfl, ?_⟩) (by assumption) ?_; rotate_left; (focus (intro w hSw; skip; go_simp; (try with_reducible rfl))); (try (refine wpAnyL_norm (by simp only [Act.put, List.setIfInBounds_toArray, List.set_cons_zero, List.set_cons_succ]; rfl) ?_))
    refine wpAnyL_take (i := 6) (v := ?_) rfl (by kernel_rfl) (fun _ _ _ h => h) (Or.inl ⟨by rfl, ?_⟩) (by assumption) ?_; rotate_left; (focus (intro w hSw; skip; go_simp; (try with_reducible rfl))); (try (refine wpAnyL_norm (by simp only [Act.put, List.setIfInBounds_toArray, List.set_cons_zero, List.set_cons_succ]; rfl) ?_))
    refine wpAnyL_take (i := 7) (v := ?_) rfl (by kernel_rfl) (fun _ _ _ h => h) (Or.inl ⟨by rfl, ?_⟩) (by assumption) ?_; rotate_left; (focus (intro w hSw; have c : _ = some (Value.int .u64 (e.num : Int)) := hSw.1.cell 3; go_simp; (try with_reducible rfl))); (try (refine wpAnyL_norm (by simp only [Act.put, List.setIfInBounds_toArray, List.set_cons_zero, List.set_cons_succ]; rfl) ?_))
    refine wpAnyL_take (i := 8) (v := ?_) rfl (by kernel_rfl) (fun _ _ _ h => h) (Or.inl ⟨by rfl, ?_⟩) (by assumption) ?_; rotate_left; (focus (intro w hSw; skip; go_simp; (try with_reducible rfl))); (try (refine wpAnyL_norm (by simp only [Act.put, List.setIfInBounds_toArray, List.set_cons_zero, List.set_cons_succ]; rfl) ?_))
    refine wpAnyL_take (i := 9) (v := ?_) rfl (by kernel_rfl) (fun _ _ _ h => h) (Or.inl ⟨by rfl, ?_⟩) (by assumption) ?_; rotate_left; (focus (intro w hSw; skip; go_simp; (try with_reducible rfl))); (try (refine wpAnyL_norm (by simp only [Act.put, List.setIfInBounds_toArray, List.set_cons_zero, List.set_cons_succ]; rfl) ?_))
    refine wpAnyL_take (i := 10) (v := ?_) rfl (by kernel_rfl) (fun _ _ _ h => h) (Or.inl ⟨by rfl, ?_⟩) (by assumption) ?_; rotate_left; (focus (intro w hSw; skip; go_simp; (try with_reducible rfl))); (try (refine wpAnyL_norm (by simp only [Act.put, List.setIfInBounds_toArray, List.set_cons_zero, List.set_cons_succ]; rfl) ?_))
    refine wpAnyL_take (i := 11) (v := ?_) rfl (by kernel_rfl) (fun _ _ _ h => h) (Or.inl ⟨by rfl, ?_⟩) (by assumption) ?_; rotate_left; (focus (intro w hSw; have c : _ = some (Value.int .u64 (x.sws : Int)) := hSw.2.1.cell 5; go_simp; (try with_reducible rfl))); (try (refine wpAnyL_norm (by simp only [Act.put, List.setIfInBounds_toArray, List.set_cons_zero, List.set_cons_succ]; rfl) ?_))
    refine wpAnyL_take (i := 12) (v := ?_) rfl (by kernel_rfl) (fun _ _ _ h => h) (Or.inl ⟨by rfl, ?_⟩) (by assumption) ?_; rotate_left; (focus (intro w hSw; skip; go_simp; (try with_reducible rfl))); (try (refine wpAnyL_norm (by simp only [Act.put, List.setIfInBounds_toArray, List.set_cons_zero, List.set_cons_succ]; rfl) ?_))
    refine wpAnyL_take (i := 13) (v := ?_) rfl (by kernel_rfl) (fun _ _ _ h => h) (Or.inl ⟨by rfl, ?_⟩) (by assumption) ?_; rotate_left; (focus (intro w hSw; skip; go_simp; (try with_reducible rfl))); (try (refine wpAnyL_norm (by simp only [Act.put, List.setIfInBounds_toArray, List.set_cons_zero, List.set_cons_succ]; rfl) ?_))
    refine wpAnyL_done (by kernel_rfl) ?_ _
    have HB1 := Lib.hid hB1
    have HB2N := Lib.hid hB2N
    clear hB1 hB2N
    cases B2
    · have hne : e.num = x.sws := by
        have := HB2N.out
        simp at this
        exact this
      rw [if_neg (by rw [HB1.out]; simp; exact hne)] at hR
      have HR := Lib.hid hR
      obtain ⟨wc0, hw3⟩ : ∃ W : World, (w.alloc (.cells e.cells 41)).drew = W := ⟨_, rfl⟩
      unfold Ev.cells at hw3 hHeld
      rw [hw3] at hHeld ⊢
      clear hR hne AP A3 F3 hw3
      have c2 : wc0.cell? ⟨p, 2, none⟩ = some (.map (some bg)) := hHeld.2.1.cell 2
      have F0 := Lib.hid hHeld.2.2
      have G0 := HP.out.gm.fr0 F0.out
      clear hHeld
      go_wp2_with (first | (at_range; refine wpList_mrange rfl (.tmp 28) 73 rfl G0 Try.underlying39 91 Try.underlying73 rfl ?_; intro w5 cnt5 hr5 hf5 hs5))
      go_frame
      have F5 := Lib.hid (F0.out.trans0 hf5)
      have hsz := F0.out.size
      obtain ⟨r1, hrr⟩ : ∃ r, wc0.heap.size = r := ⟨_, rfl⟩
      rw [hrr] at hr5 hs5 hsz ⊢
      have R5 := Lib.hid hr5
      have FB := Lib.hid hf5
      clear hr5 G0 c2
      go_loopw [6] (fun _ wr => ∃ left cnt, Mr Try.prog 39 .u64 wr bg r1 i (gF x.gs) left cnt ∧ (∀ g ∈ x.gs, left g.n = false → g.batch = false) ∧ Fr [] wc0 wr) (fun _ wr => wr.rangeLeft bg r1)
      case atStart =>
        exact ⟨_, _, R5.out, (fun g hg hl => by (have hl' : (gF x.gs g.n).isSome = false := hl); rw [gF, gO_of HP.out.good.one hg] at hl'; cases hl'), FB.out⟩
      case round =>
        obtain ⟨left, cnt, hr, hck, hfr⟩ := hrel
        have CK := Lib.hid hck
        have FR := Lib.hid hfr
        have HRR := Lib.hid hr
        clear hck hfr
        go_wp2_with (at_next; refine wpList_mnext (fun g : Gr => .agg #[.int .u32 g.a, .int .u32 g.s, .bool g.rests, .bool g.batch, .int .i64 g.freed]) (gO x.gs) rfl (.tmp 29) rfl hr (fun _ => rfl) Try.underlying39 rfl ?_ ?_)
        · intro hl0
          have hany : x.gs.any (·.batch) = false := by
            rw [List.any_eq_false]
            intro g hg
            rw [CK.out g hg (hl0 _)]
            simp
          have HA := Lib.hid hany
          have FW := Lib.hid (F0.out.trans0 FR.out)
          clear hany CK hf5 F5 FB R5 hl0 hr HRR FR
          obtain ⟨w1, rfl⟩ : ∃ W : World, W = wr := ⟨_, rfl⟩
          have c6 : w1.cell? ⟨p, 6, none⟩ = some (.map (some ba)) := (HP.out.at_.fr FW.out (by simp)).cell 6
          have K1 := HP.out.am.fr0 FW.out
          go_wp2_with (first | (at_range; refine wpList_mrange rfl (.tmp 39) 74 rfl K1 Try.underlying3 95 Try.underlying74 rfl ?_; intro w5 cnt5 hr5 hf5 hs5))
          go_frame
          have hsz1 := FW.out.size
          obtain ⟨r2, hrr2⟩ : ∃ r, w1.heap.size = r := ⟨_, rfl⟩
          rw [hrr2] at hr5 hs5 hsz1 ⊢
          have R5 := Lib.hid hr5
          have FB := Lib.hid hf5
          clear hr5 hf5 K1 c6
          go_loopw [8] (fun _ wr => ∃ left cnt, Mr Try.prog 3 .i64 wr ba r2 i (aF x.ks) left cnt ∧ (∀ k ∈ x.ks, left k.h = false → k.e < 2) ∧ Fr [] w1 wr) (fun _ wr => wr.rangeLeft ba r2)
          case atStart =>
            exact ⟨_, _, R5.out, (fun g hg hl => by (have hl' : (aF x.ks g.h).isSome = false := hl); rw [aF, aO_of HP.out.good.aone hg] at hl'; cases hl'), FB.out⟩
          case round =>
            obtain ⟨left, cnt, hr, hck, hfr⟩ := hrel
            have CK := Lib.hid hck
            have FR := Lib.hid hfr
            have HRR := Lib.hid hr
            clear hck hfr
            go_wp2_with (at_next; refine wpList_mnext (fun k : Ak => .agg #[.int .i64 k.t, .int .i64 k.e]) (aO x.ks) rfl (.tmp 40) rfl hr (fun _ => rfl) Try.underlying3 rfl ?_ ?_)
            · intro hl0
              have hany2 : x.ks.any (fun k => decide (2 ≤ k.e)) = false := by
                rw [List.any_eq_false]
                intro g hg
                have := CK.out g hg (hl0 _)
                simp
                omega
              have HA2 := Lib.hid hany2
              have FW2 := Lib.hid (FW.out.trans0 FR.out)
              clear hany2 CK FB R5 hl0 hr HRR FR FW
              obtain ⟨w2, rfl⟩ : ∃ W : World, W = wr := ⟨_, rfl⟩
              have A2 := (HP.out.at_.fr FW2.out (by simp))
              have c4 : w2.cell? ⟨p, 4, none⟩ = some (.bool x.sw) := A2.cell 4
              have c6 : w2.cell? ⟨p, 6, none⟩ = some (.map (some ba)) := A2.cell 6
              have y4 := A2.froz 4
              have A4 := Lib.hid (show At (w2.setCell ⟨p, 4, none⟩ (.bool false)) p 76 (Sx.cells { x with sw := false } ha hs bg ba) from A2.set 4 (.bool false))
              have G4 := Lib.hid ((HP.out.gm.fr0 FW2.out).set (a := ⟨p, 4, none⟩) hbp (.bool false))
              have K4 := (HP.out.am.fr0 FW2.out).set (a := ⟨p, 4, none⟩) hap (.bool false)
              have F4 := Lib.hid ((FW2.out.more (T := [p]) (by simp)).set (a := ⟨p, 4, none⟩) (.inl (by simp)) (.bool false))
              clear A2
              go_wp2_with (first | (at_range; refine wpList_mrange rfl (.tmp 54) 74 rfl K4 Try.underlying3 95 Try.underlying74 rfl ?_; intro w5 cnt5 hr5 hf5 hs5))
              go_frame
              obtain ⟨w4, hw4⟩ : ∃ W, w2.setCell ⟨p, 4, none⟩ (.bool false) = W := ⟨_, rfl⟩
              have A6 := A4.out.fr hf5 (by simp)
              have G6 := G4.out.fr0 hf5
              have F6 := F4.out.trans0 hf5
              have hsz4 := F4.out.size
              rw [hw4] at hr5 hs5 hsz4 ⊢
              obtain ⟨r3, hrr3⟩ : ∃ r, w4.heap.size = r := ⟨_, rfl⟩
              rw [hrr3] at hr5 hs5 hsz4 ⊢
              have A6 := Lib.hid A6
              have G6 := Lib.hid G6
              have F6 := Lib.hid F6
              have R6 := Lib.hid hr5
              clear hw4 hr5 hf5 A4 G4 F4 K4 c4 c6 y4
              go_loopw [10] (fun _ wr => ∃ left cnt, Mr Try.prog 3 .i64 wr ba r3 i (fun j => (aL x.ks left j).map Ak.v) left cnt ∧ (∀ j, left j = true → (aO x.ks j).isSome = true) ∧ Fr [ba, r3] w5 wr) (fun _ wr => wr.rangeLeft ba r3)
              case atStart =>
                refine ⟨_, _, R6.out.congr (fun j => ?_) (fun _ => rfl), fun j hj => ?_, Fr.refl _ _⟩
                · show aF x.ks j = _
                  unfold aF
                  rw [aL_all _ _ (fun g hg => by show (aF x.ks g.h).isSome = true; rw [aF, aO_of HP.out.good.aone hg]; rfl)]
                · have hj' : (aF x.ks j).isSome = true := hj
                  simpa [aF] using hj'
              case round =>
                obtain ⟨left, cnt, hr, hck, hfr⟩ := hrel
                have CK := Lib.hid hck
                have FR := Lib.hid hfr
                have HRR := Lib.hid hr
                clear hck hfr
                go_wp2_with (at_next; refine wpList_mnext (fun k : Ak => .agg #[.int .i64 k.t, .int .i64 k.e]) (aL x.ks left) rfl (.tmp 55) rfl hr (fun _ => rfl) Try.underlying3 rfl ?_ ?_)
                · intro hl0
                  go_wp2_with fail
                  go_ret
                  have hR := HR.out
                  rw [HA.out, if_neg (by simp), HA2.out, if_neg (by simp)] at hR
                  have GR := GG.out
                  rw [← hR] at GR ⊢
                  refine ⟨rfl, ⟨A6.out.fr FR.out (by simp; omega), (G6.out.fr FR.out (by simp; omega)).mono (by omega), (HRR.out.mp.congr fun j => ?_).mono (by omega), hba, GR, hb1, hb2⟩, (F6.out.more (T := [p, ba]) (by simp)).trans FR.out (by simp; omega)⟩
                  show (aL x.ks left j).map Ak.v = _
                  rw [aL_none _ _ hl0]
                  rfl
                · intro j c w6 cnt6 hwj hlj hgj hr6 hlt6 hf6 hs6 hen
                  have hOj : aO x.ks j = some c := by
                    have hgj' := hgj
                    unfold aL at hgj'
                    rw [hlj] at hgj'
                    simpa using hgj'
                  have hce : c.e ≤ 3 := (HP.out.good.asa c (aO_mem hOj).1).2
                  have hwe : IntKind.i64.wrap ((c.e : Int) + 1) = (c.e : Int) + 1 := by simp [IntKind.wrap, IntKind.signed, IntKind.bits]; omega
                  have HOJ := Lib.hid hOj
                  have hsome : ((fun j => (aL x.ks left j).map Ak.v) j).isSome = true := by show ((aL x.ks left j).map Ak.v).isSome = true; rw [hgj]; rfl
                  have HSM := Lib.hid hsome
                  have F6R := Lib.hid ((FR.out.trans hf6 (T := [r3]) (by simp)).trans0 (show Fr [] w6 (w6.alloc (.cells #[.int .i64 c.t, .int .i64 ((c.e : Int) + 1)] 95)) from (by repeat (first | exact Fr.refl _ _ | assumption | refine Fr.trans0 ?_ (by assumption) | refine Fr.drewN ?_ _ | refine Fr.alloc ?_ _ | refine Fr.drew ?_))))
                  have AG : At (w6.alloc (.cells #[.int .i64 c.t, .int .i64 ((c.e : Int) + 1)] 95)) wr.heap.size 95 #[.int .i64 c.t, .int .i64 ((c.e : Int) + 1)] := by
                    rw [← hs6]
                    exact At.new _ _ _
                  have AG := Lib.hid AG
                  have hr6 := hr6.congr (left' := fun m => if m = j then false else left m) (fun _ => rfl) (fun m => by by_cases h : m = j <;> simp [h])
                  have MG := Lib.hid (hr6.fr0 (w' := w6.alloc (.cells #[.int .i64 c.t, .int .i64 ((c.e : Int) + 1)] 95)) (by repeat (first | exact Fr.refl _ _ | assumption | refine Fr.trans0 ?_ (by assumption) | refine Fr.drewN ?_ _ | refine Fr.alloc ?_ _ | refine Fr.drew ?_)))
                  have PG := Lib.hid (A6.out.fr F6R.out (by simp; omega))
                  have hww := FR.out.size
                  clear hOj hsome
                  go_wp2_with fail
                  refine wp_region_L (fun W => At W wr.heap.size 95 #[.int .i64 c.t, .int .i64 ((c.e : Int) + 1)] ∧ At W p 76 (Sx.cells { x with sw := false } ha hs bg ba) ∧ Mr Try.prog 3 .i64 W ba r3 i (fun j => (aL x.ks left j).map Ak.v) (fun m => if m = j then false else left m) cnt6 ∧ Fr [ba, r3] w5 W) [6] (by kernel_rfl) ⟨AG.out.hp rfl, PG.out.hp rfl, MG.out.fr0 (Fr.refl _ _).drew, F6R.out.drew⟩ (fun hHeld => ?_)
                  refine wpAnyL_take (i := 0) (v := ?_) rfl (by kernel_rfl) (fun _ _ _ h => h) (Or.inl ⟨by rfl, ?_⟩) (by assumption) ?_; rotate_left; (focus (intro w hSw; skip; go_simp; (try with_reducible rfl))); (try (refine wpAnyL_norm (by simp only [Act.put, List.setIfInBounds_toArray, List.set_cons_zero, List.set_cons_succ]; rfl) ?_))
                  refine wpAnyL_take (i := 1) (v := ?_) rfl (by kernel_rfl) (fun _ _ _ h => h) (Or.inl ⟨by rfl, ?_⟩) (by assumption) ?_; rotate_left; (focus (intro w hSw; skip; go_simp; (try with_reducible rfl))); (try (refine wpAnyL_norm (by simp only [Act.put, List.setIfInBounds_toArray, List.set_cons_zero, List.set_cons_succ]; rfl) ?_))
                  refine wpAnyL_take (i := 2) (v := ?_) rfl (by kernel_rfl) (fun _ _ _ h => h) (Or.inl ⟨by rfl, ?_⟩) (by assumption) ?_; rotate_left; (focus (intro w hSw; skip; go_simp; (try with_reducible rfl))); (try (refine wpAnyL_norm (by simp only [Act.put, List.setIfInBounds_toArray, List.set_cons_zero, List.set_cons_succ]; rfl) ?_))
                  refine wpAnyL_take (i := 3) (v := ?_) rfl (by kernel_rfl) (fun _ _ _ h => h) (Or.inl ⟨by rfl, ?_⟩) (by assumption) ?_; rotate_left; (focus (intro w hSw; have c : _ = some (Value.map (some ba)) := hSw.2.1.cell 6; go_simp; (try with_reducible rfl))); (try (refine wpAnyL_norm (by simp only [Act.put, List.setIfInBounds_toArray, List.set_cons_zero, List.set_cons_succ]; rfl) ?_))
                  refine wpAnyL_take (i := 4) (v := ?_) rfl (by kernel_rfl) (fun _ _ _ h => h) (Or.inl ⟨by rfl, ?_⟩) (by assumption) ?_; rotate_left; (focus (intro w hSw; skip; go_simp; (try with_reducible rfl))); (try (refine wpAnyL_norm (by simp only [Act.put, List.setIfInBounds_toArray, List.set_cons_zero, List.set_cons_succ]; rfl) ?_))
                  refine wpAnyL_take (i := 5) rfl (by kernel_rfl) (fun _ _ _ h => h) (yields_load_at 95 (.tmp 10) rfl ⟨wr.heap.size, 0, none⟩ rfl [.int .i64 c.t, .int .i64 ((c.e : Int) + 1)] _ (fun W hW => hW.1.all _ rfl) Try.underlying95 rfl infoAk rfl) (by assumption) ?_; (try (refine wpAnyL_norm (by simp only [Act.put, List.setIfInBounds_toArray, List.set_cons_zero, List.set_cons_succ]; rfl) ?_))
                  refine wpAnyL_ready (rs := [6]) (by kernel_rfl) (by simp) ?_; refine AllReadyL.cons rfl (fun K hK => ?_) AllReadyL.nil
                  refine wp_mstore_in (.tmp 68) (.tmp 69) (.tmp 70) 74 rfl hHeld.2.2.1 Try.underlying3 95 Try.underlying74 (by unfold maxLen; omega) j _ rfl rfl rfl hwj HSM.out ?_
                  intro w7 hm7 hf7 hs7
                  refine hK.out _ _ (fun h => (h (by decide)).elim) (fun _ => ?_); clear hK K; (try (refine wpAnyL_norm (by simp only [Act.put, List.setIfInBounds_toArray, List.set_cons_zero, List.set_cons_succ]; rfl) ?_))
                  refine wpAnyL_done (by kernel_rfl) ?_ _
                  go_wp2_with fail
                  have M7 := hm7.congr (aL_step x.ks left HOJ.out) (fun _ => rfl)
                  have F7 := hHeld.2.2.2.trans hf7 (by simp)
                  go_roundw
                  case rel =>
                    refine ⟨_, _, M7, fun m hm => ?_, F7⟩
                    by_cases hmj : m = j
                    · rw [hmj, HOJ.out]; rfl
                    · exact CK.out m (by simpa [hmj] using hm)
                  case measure =>
                    rw [M7.left_eq, HRR.out.left_eq]
                    exact hlt6
            · intro j c w6 cnt6 hwj hlj hgj hr6 hlt6 hf6 hs6 hen
              obtain ⟨hgm, hgn⟩ := aO_mem hgj
              obtain ⟨M, hM⟩ : ∃ M, decide (2 ≤ (c.e : Int)) = M := ⟨_, rfl⟩
              have hMN : decide (2 ≤ c.e) = M := by rw [← hM, decide_eq_decide]; omega
              have R8 := Lib.hid (hr6.fr0 (w' := w6.alloc (.cells #[.int .i64 c.t, .int .i64 c.e] 95)) (by repeat (first | exact Fr.refl _ _ | assumption | refine Fr.trans0 ?_ (by assumption) | refine Fr.drewN ?_ _ | refine Fr.alloc ?_ _ | refine Fr.drew ?_)))
              have F8 := Lib.hid ((FR.out.trans hf6 (T := [r2]) (by simp; omega)).trans0 (show Fr [] w6 (w6.alloc (.cells #[.int .i64 c.t, .int .i64 c.e] 95)) from (by repeat (first | exact Fr.refl _ _ | assumption | refine Fr.trans0 ?_ (by assumption) | refine Fr.drewN ?_ _ | refine Fr.alloc ?_ _ | refine Fr.drew ?_))))
              have HJ := Lib.hid hgj
              have HMM := Lib.hid hMN
              clear hr6 hf6
              cases M
              · go_wp2_with fail
                go_roundw
                case rel =>
                  refine ⟨_, _, R8.out, fun g hg hl => ?_, F8.out⟩
                  by_cases hgj : g.h = j
                  · have h1 := aO_of HP.out.good.aone hg
                    rw [hgj, HJ.out] at h1
                    cases h1
                    have := HMM.out
                    simp at this
                    omega
                  · exact CK.out g hg (by simpa [hgj] using hl)
                case measure =>
                  rw [R8.out.left_eq, HRR.out.left_eq]
                  exact hlt6
              · go_wp2_with fail
                go_ret
                have hR := HR.out
                rw [HA.out, if_neg (by simp), if_pos (List.any_eq_true.2 ⟨c, hgm, HMM.out⟩)] at hR
                rw [← hR]
                exact ⟨rfl, HM.out.fr0 (FW.out.trans0 F8.out), (FW.out.trans0 F8.out).more (by simp)⟩
        · intro j c w6 cnt6 hwj hlj hgj hr6 hlt6 hf6 hs6 hen
          obtain ⟨hgm, hgn⟩ := gO_mem hgj
          obtain ⟨M, hM⟩ : ∃ M, c.batch = M := ⟨_, rfl⟩
          rw [hM] at hen ⊢
          have R8 := Lib.hid (hr6.fr0 (w' := w6.alloc (.cells #[.int .u32 c.a, .int .u32 c.s, .bool c.rests, .bool M, .int .i64 c.freed] 91)) (by repeat (first | exact Fr.refl _ _ | assumption | refine Fr.trans0 ?_ (by assumption) | refine Fr.drewN ?_ _ | refine Fr.alloc ?_ _ | refine Fr.drew ?_)))
          have F8 := Lib.hid ((FR.out.trans hf6 (T := [r1]) (by simp; omega)).trans0 (show Fr [] w6 (w6.alloc (.cells #[.int .u32 c.a, .int .u32 c.s, .bool c.rests, .bool M, .int .i64 c.freed] 91)) from (by repeat (first | exact Fr.refl _ _ | assumption | refine Fr.trans0 ?_ (by assumption) | refine Fr.drewN ?_ _ | refine Fr.alloc ?_ _ | refine Fr.drew ?_))))
          have HJ := Lib.hid hgj
          have HMM := Lib.hid hM
          clear hM hr6 hf6
          cases M
          · go_wp2_with fail
            go_roundw
            case rel =>
              refine ⟨_, _, R8.out, fun g hg hl => ?_, F8.out⟩
              by_cases hgj : (g.n : Int) = j
              · have h1 := gO_of HP.out.good.one hg
                rw [hgj, HJ.out] at h1
                cases h1
                exact HMM.out
              · exact CK.out g hg (by simpa [hgj] using hl)
            case measure =>
              rw [R8.out.left_eq, HRR.out.left_eq]
              exact hlt6
          · go_wp2_with fail
            go_ret
            have hR := HR.out
            rw [if_pos (List.any_eq_true.2 ⟨c, hgm, HMM.out⟩)] at hR
            rw [← hR]
            exact ⟨rfl, HM.out.fr0 (F0.out.trans0 F8.out), (F0.out.trans0 F8.out).more (by simp)⟩
    · have hne : e.num ≠ x.sws := HB2N.out.1 rfl
      go_wp2_with fail
      go_ret
      rw [if_pos (.inr hne)] at hR
      rw [← hR]
      exact ⟨rfl, HM.out.fr0 hHeld.2.2, hHeld.2.2.more (by simp)⟩
end Go.Proofs.Ytkbdoiefgmbikaa
