/-
  The two paints of layer 17's statements, of the same regions. Condition: the regions came in.
-/




import Derived.Test.YtilgklpponaoeaaRefC
import Derived.Test.YtilgklpponaoeaaArgs
import Derived.Test.YtilgklpponaoeaaFitsCap
import Derived.Deep.RegionHeld3
import Derived.Deep.CutBlock
import Derived.Deep.DeepCutAuto
set_option linter.unusedVariables false
namespace Go.Proofs.Ytilgklpponaoeaa
open Go.ChangeShapes Go.WideShapes Go.ChangeAt Go.RowKit
theorem own_tq {b e n size : Nat} {w : World} {v : Value} {xs : List Value} {q : Nat} {t : TypeId} {cs : Array Value} (h : w.ownsRow b e size v n xs) (hq : At w q t cs) (ht : t ≠ e := by decide) : ∀ g, v.ownBlock = some g → g ∉ [q] := fun g hg => by simpa using own_ne h hq ht g hg
theorem fits2 {k0 k1 : IntKind} {cs : List Value} (h : Fits [.i k0, .i k1] cs) : ∃ z0 z1 : Int, cs = [.int k0 z0, .int k1 z1] ∧ (Lit.int k0 z0).wf = true ∧ (Lit.int k1 z1).wf = true := by
  obtain ⟨v0, c1, e0, ⟨z0, rfl, w0⟩, h1⟩ := h.cons
  obtain ⟨v1, c2, e1, ⟨z1, rfl, w1⟩, h2⟩ := h1.cons
  rw [h2.nil] at e1
  rw [e1] at e0
  exact ⟨z0, z1, e0, w0, w1⟩
theorem Bs.ne {b n p g m : Nat} {w : World} {v : Value} {f f' : Nat → Bool} (h : Bs b w v n f) (ht : Tg w p g m f') : ∀ q, v.ownBlock = some q → q ≠ g := by
  obtain ⟨h1, h2, h3, c, cs, h4, h5, h6, h7⟩ := ht
  exact own_ne h h6 (by decide)
theorem At.newq {w : World} {g : Nat} {t : TypeId} {cs : Array Value} (h : g = w.heap.size) : At (w.alloc (.cells cs t)) g t cs := by subst h; exact At.new w t cs
theorem wp_store_all {P : Program} {K : Act → World → Prop} {Q : Exit → Act → World → Prop} {o : Oper} {a : Act} {w : World} (ty : TypeId) (x y : Operand) (ho : o.op = .store ty x y) (g : Nat) (cs : Array Value) (hx : a.eval x = .pointer (some ⟨g, 0, none⟩)) (hy : a.eval y = .agg cs)
    (t : TypeId) (cur : Array Value) (hg : At w g t cur) (hi : (P.info? ty).map (·.size) = some cs.size) (hk : cur.size = cs.size) (h1 : cs.all (·.oneCell') = true)
    (h : ∀ w', At w' g t cs → Fr [g] w w' → K (a.put o.dst undef) w') : o.wp P a w K Q :=
  wp_store_row ty x y ho g cs hx hy t cur hg hi hk h1 (h _ (setRow_heap w g _ _ t (0, 0) hg) (Fr.setRow w g _))
/-- Capabilities that came in. -/
def CapsAt (w : World) (a : Option Addr) (l : List Cp) : Prop := l = [] ∨ ∃ b off, a = some ⟨b, off, none⟩ ∧ b < w.heap.size ∧ ∀ m v, (cat l)[m]? = some v → w.cell? ⟨b, off + m, none⟩ = some v
theorem caps_of {w : World} {a : Option Addr} {len : Nat} (h : Elems w a len [.i .u32, .i .u8, .i .u16, .i .u16, .i .u16, .i .u16, .i .u32, .b]) : ∃ l : List Cp, l.length = len ∧ (∀ c ∈ l, c.Ok) ∧ CapsAt w a l := by
  obtain ⟨_, h0 | ⟨b, off, rfl, hb, hc⟩⟩ := h
  · subst h0
    exact ⟨[], rfl, by simp, .inl rfl⟩
  · have key : ∀ i : Fin len, ∃ c : Cp, c.Ok ∧ ∀ j, j < 8 → w.cell? ⟨b, off + (i.1 * 8 + j), none⟩ = c.l[j]? := fun i => by
      obtain ⟨cs, hf, hj⟩ := hc i.1 i.2
      obtain ⟨c, rfl, hok⟩ := fitsC hf
      exact ⟨c, hok, fun j hj8 => hj j hj8⟩
    refine ⟨List.ofFn fun i => Classical.choose (key i), by simp, fun c hc => ?_, .inr ⟨b, off, rfl, hb, fun m v hm => ?_⟩⟩
    · obtain ⟨i, rfl⟩ := List.mem_ofFn.1 hc
      exact (Classical.choose_spec (key i)).1
    · have hlen := (List.getElem?_eq_some_iff.1 hm).1
      rw [cat_len, List.length_ofFn] at hlen
      have hi : m / 8 < len := by omega
      have e : m = m / 8 * 8 + m % 8 := by omega
      have hg : (List.ofFn fun i => Classical.choose (key i))[m / 8]? = some (Classical.choose (key ⟨m / 8, hi⟩)) := by
        rw [List.getElem?_ofFn, dif_pos hi]
      rw [e, cat_get _ (m / 8) (m % 8) _ hg (by omega)] at hm
      rw [e, (Classical.choose_spec (key ⟨m / 8, hi⟩)).2 (m % 8) (by omega)]
      exact hm
set_option maxHeartbeats 1000000 in
set_option maxRecDepth 100000 in
theorem painted_any (w : World) (a : Option Addr) (len cap : Nat) (hE : Elems w a len [.i .u32, .i .u32]) :
    Calls Try.prog 16 #[.slice a len cap] w fun r w' => ∃ (f : Nat → Bool) (pp p g : Nat) (v : Value), r = .returned (.tuple #[.pointer (some ⟨pp, 0, none⟩), .agg #[v]]) ∧ Pt w' pp p g 256 f ∧ Bs 0 w' v 256 f ∧ Fr [] w w' := by
  obtain ⟨hlen, hrec⟩ := hE
  have Hrec := Lib.hid hrec
  have C2 := Lib.hid fun w => r15new_yes 256 w (by omega)
  have A0 := Lib.hid (At.new w 53 #[.slice none 0 0])
  have F0 := Lib.hid (show Fr [] w (w.alloc (.cells #[.slice none 0 0] 53)) from (by repeat (first | exact Fr.refl _ _ | assumption | refine Fr.trans0 ?_ (by assumption) | refine Fr.drewN ?_ _ | refine Fr.alloc ?_ _ | refine Fr.drew ?_)))
  clear hrec
  go_enter Try.func16, Try.ntmps16
  go_wp2_with fail
  refine (ptnew_any 256 _ (by omega)).mono ?_
  rintro e w2 ⟨pp, p, g, rfl, h2, hpp, hp, hg, hf2⟩
  have A2 := Lib.hid (A0.out.fr hf2 (by simp))
  have P2 := Lib.hid h2
  have F2 := Lib.hid (F0.out.trans0 hf2)
  have hwp : w.heap.size < pp ∧ w.heap.size < p ∧ w.heap.size < g := by simp at hpp hp hg; omega
  obtain ⟨hw1, hw2, hw3⟩ := hwp
  clear h2 hf2 A0 F0 hpp hp hg
  go_wp2_with fail
  refine (C2.out _).mono ?_
  rintro e w3 ⟨v, rfl, h3, hf3⟩
  obtain ⟨av, cv, rfl, hcv⟩ := own_slice h3
  have P3 := Lib.hid (P2.out.fr hf3 (by simp) (by simp) (by simp))
  have A3 := Lib.hid (A2.out.fr hf3 (by simp))
  have F3 := Lib.hid (F2.out.trans0 hf3)
  have B3 := Lib.hid (own_base h3 (Nat.zero_le _))
  clear h3 hf3 P2 A2 F2
  go_wp2_with fail
  have hfa : Fr [] w3 (w3.alloc (.cells #[.slice av 256 cv] 53)) := (by repeat (first | exact Fr.refl _ _ | assumption | refine Fr.trans0 ?_ (by assumption) | refine Fr.drewN ?_ _ | refine Fr.alloc ?_ _ | refine Fr.drew ?_))
  have P4 := Lib.hid (P3.out.fr hfa (by simp) (by simp) (by simp))
  have A4 := Lib.hid (A3.out.fr hfa (by simp))
  have F4 := Lib.hid (F3.out.trans0 hfa)
  have B4 := Lib.hid (own_fr0 B3.out hfa)
  have hl3 := P3.out.lt
  have hA := At.new w3 53 #[.slice av 256 cv]
  obtain ⟨q, hq⟩ : ∃ q, w3.heap.size = q := ⟨_, rfl⟩
  rw [hq] at hA hl3 ⊢
  have Q4 := Lib.hid hA
  obtain ⟨hl1, hl2, hl4⟩ := hl3
  clear hfa hA hq P3 A3 F3 B3
  go_loopw [7] (fun i wr => ∃ (k : Nat) (f : Nat → Bool) (av : Option Addr) (cv : Nat), k ≤ 20 ∧ i = .int .i64 k ∧ Pt wr pp p g 256 f ∧ At wr q 53 #[.slice av 256 cv] ∧ Bs 0 wr (.slice av 256 cv) 256 f ∧ At wr w.heap.size 53 #[.slice none 0 0] ∧ Fr [] w wr) (fun i _ => 20 - (intOf i).toNat)
  case atStart => exact ⟨0, _, av, cv, by omega, rfl, P4.out, Q4.out, B4.out, A4.out, F4.out⟩
  case round =>
    clear P4 Q4 B4 A4 F4
    obtain ⟨k, f, av, cv, hk, rfl, hpt, hat, hbs, hz, hf⟩ := hrel
    have HP := Lib.hid hpt
    have HT := Lib.hid hat
    have HBs := Lib.hid hbs
    have HZ := Lib.hid hz
    have HF := Lib.hid hf
    have hgq := Bs.ne hbs hpt.2.1
    have hql := hat.lt
    have cA := hat.cell 0
    simp only [List.getElem?_toArray, List.getElem?_cons_zero] at cA
    clear hpt hat hbs hz
    by_cases hlt : k < len ∧ k < 20
    · obtain ⟨hl1, hl2⟩ := hlt
      obtain ⟨b, off, rfl, hb, hcells⟩ := Hrec.out.resolve_left (by omega)
      obtain ⟨cs, hfit, hcs⟩ := hcells k hl1
      obtain ⟨z1, z2, rfl, hv1, hv2⟩ := fits2 hfit
      have hc1 := hcs 0 (by simp)
      have hc2 := hcs 1 (by simp)
      simp only [List.length_cons, List.length_nil, List.getElem?_cons_zero, List.getElem?_cons_succ, Nat.zero_add, Nat.reduceAdd, Nat.add_zero] at hc1 hc2
      obtain ⟨bw10, bw11⟩ := bounds_u32 hv1
      obtain ⟨bw20, bw21⟩ := bounds_u32 hv2
      have k1 : wr.cell? ⟨b, off + k * 2, none⟩ = _ := (hf.cell (a := ⟨b, off + k * 2, none⟩) hb (by simp)).trans hc1
      have k2 : wr.cell? ⟨b, off + k * 2 + 1, none⟩ = _ := (hf.cell (a := ⟨b, off + (k * 2 + 1), none⟩) hb (by simp)).trans hc2
      have hbw : b < wr.heap.size := by have := hf.size; omega
      clear hcs hcells hv1 hv2 hc1 hc2 hf
      have CA := Lib.hid (ptadd_any wr pp p g 256 f HP.out z1 z2 bw10 bw11 bw20 bw21)
      go_wp2_with fail
      refine (CA.out).mono ?_
      rintro e w4 ⟨rfl, h4, hf4⟩
      have HP4 := Lib.hid h4
      have HT4 := Lib.hid (HT.out.fr hf4 (by simp; omega))
      have HB4 := Lib.hid (own_fr HBs.out hf4 (fun q hq => by simp; exact hgq q hq))
      have HZ4 := Lib.hid (HZ.out.fr hf4 (by simp; omega))
      have HF4 := Lib.hid (HF.out.trans hf4 (by simp; omega))
      have CB := Lib.hid fun (W : World) (hW : Fr [] w4 W) => r15add_any W 0 _ 256 f (own_fr0 HB4.out hW) (by omega) z1 z2 bw10 bw11 bw20 bw21
      replace cA := (hf4.cell (a := ⟨q, 0, none⟩) hql (by simp; omega)).trans cA
      replace k1 := (hf4.cell (a := ⟨b, off + k * 2, none⟩) hbw (by simp; omega)).trans k1
      replace k2 := (hf4.cell (a := ⟨b, off + k * 2 + 1, none⟩) hbw (by simp; omega)).trans k2
      have hb4 : b < w4.heap.size := Nat.lt_of_lt_of_le hbw hf4.size
      clear h4 hf4 HP HT HBs HZ HF CA hfit
      have hq4 := HT4.out.lt
      go_upto_region 7 with (fail)
      refine wp_region_L (fun W => Fr [] w4 W) [] (by kernel_rfl) (Fr.refl _ _).drew (fun hHeld => ?_)
      refine wpAnyL_take (i := 0) (v := ?_) rfl (by kernel_rfl) (fun _ _ _ h => h) (Or.inl ⟨by rfl, ?_⟩) (by assumption) ?_; rotate_left; (focus (intro w hSw; (have hcl := (hSw.cell (a := ⟨q, 0, none⟩) hq4 (by simp)).trans cA); go_simp; (try with_reducible rfl))); (try (refine wpAnyL_norm (by simp only [Act.put, List.setIfInBounds_toArray, List.set_cons_zero, List.set_cons_succ]; rfl) ?_))
      refine wpAnyL_take (i := 1) (v := ?_) rfl (by kernel_rfl) (fun _ _ _ h => h) (Or.inl ⟨by rfl, ?_⟩) (by assumption) ?_; rotate_left; (focus (intro w hSw; skip; go_simp; (try with_reducible rfl))); (try (refine wpAnyL_norm (by simp only [Act.put, List.setIfInBounds_toArray, List.set_cons_zero, List.set_cons_succ]; rfl) ?_))
      refine wpAnyL_take (i := 2) (v := ?_) rfl (by kernel_rfl) (fun _ _ _ h => h) (Or.inl ⟨by rfl, ?_⟩) (by assumption) ?_; rotate_left; (focus (intro w hSw; skip; go_simp; (try with_reducible rfl))); (try (refine wpAnyL_norm (by simp only [Act.put, List.setIfInBounds_toArray, List.set_cons_zero, List.set_cons_succ]; rfl) ?_))
      refine wpAnyL_take (i := 3) (v := ?_) rfl (by kernel_rfl) (fun _ _ _ h => h) (Or.inl ⟨by rfl, ?_⟩) (by assumption) ?_; rotate_left; (focus (intro w hSw; skip; go_simp; (try with_reducible rfl))); (try (refine wpAnyL_norm (by simp only [Act.put, List.setIfInBounds_toArray, List.set_cons_zero, List.set_cons_succ]; rfl) ?_))
      refine wpAnyL_take (i := 4) (v := ?_) rfl (by kernel_rfl) (fun _ _ _ h => h) (Or.inl ⟨by rfl, ?_⟩) (by assumption) ?_; rotate_left; (focus (intro w hSw; (have hc1 := (hSw.cell (a := ⟨b, off + k * 2, none⟩) hb4 (by simp)).trans k1; have hc2 := (hSw.cell (a := ⟨b, off + k * 2 + 1, none⟩) hb4 (by simp)).trans k2); go_simp; (try with_reducible rfl))); (try (refine wpAnyL_norm (by simp only [Act.put, List.setIfInBounds_toArray, List.set_cons_zero, List.set_cons_succ]; rfl) ?_))
      refine wpAnyL_ready (rs := [5, 9]) (by kernel_rfl) (by simp) ?_
      refine AllReadyL.cons rfl (fun K hK => ?_) (AllReadyL.cons rfl (fun K hK => ?_) AllReadyL.nil)
      · go_simp
        refine (CB.out _ hHeld).mono ?_
        rintro e w5 ⟨v', rfl, h5, hf5⟩
        obtain ⟨av', cv', rfl, hcv'⟩ := own_slice h5
        refine hK.out _ _ (fun _ => hHeld.trans0 hf5) (fun hHeld' => ?_); have hHeld := hHeld' (by decide); clear hHeld' hK K; (try (refine wpAnyL_norm (by simp only [Act.put, List.setIfInBounds_toArray, List.set_cons_zero, List.set_cons_succ]; rfl) ?_))
        refine wpAnyL_take (i := 6) (v := ?_) rfl (by kernel_rfl) (fun _ _ _ h => h) (Or.inl ⟨by rfl, ?_⟩) (by assumption) ?_; rotate_left; (focus (intro w hSw; skip; go_simp; (try with_reducible rfl))); (try (refine wpAnyL_norm (by simp only [Act.put, List.setIfInBounds_toArray, List.set_cons_zero, List.set_cons_succ]; rfl) ?_))
        refine wpAnyL_take (i := 7) (v := ?_) rfl (by kernel_rfl) (fun _ _ _ h => h) (Or.inl ⟨by rfl, ?_⟩) (by assumption) ?_; rotate_left; (focus (intro w hSw; skip; go_simp; (try with_reducible rfl))); (try (refine wpAnyL_norm (by simp only [Act.put, List.setIfInBounds_toArray, List.set_cons_zero, List.set_cons_succ]; rfl) ?_))
        refine wpAnyL_take (i := 8) (v := ?_) rfl (by kernel_rfl) (fun _ _ _ h => h) (Or.inl ⟨by rfl, ?_⟩) (by assumption) ?_; rotate_left; (focus (intro w hSw; skip; go_simp; (try with_reducible rfl))); (try (refine wpAnyL_norm (by simp only [Act.put, List.setIfInBounds_toArray, List.set_cons_zero, List.set_cons_succ]; rfl) ?_))
        refine wpAnyL_ready (rs := [9]) (by kernel_rfl) (by simp) ?_; refine AllReadyL.cons rfl (fun K hK => ?_) AllReadyL.nil
        go_simp
        refine hK.out _ _ (fun _ => hHeld.alloc _) (fun hHeld' => ?_); have hHeld := hHeld' (by decide); clear hHeld' hK K; (try (refine wpAnyL_norm (by simp only [Act.put, List.setIfInBounds_toArray, List.set_cons_zero, List.set_cons_succ]; rfl) ?_))
        have hg5 : Fr [] w5 (w5.alloc (.cells #[.slice none 0 0] 53)) := (Fr.refl _ _).alloc _
        have hG5 : Fr [] w4 _ := hHeld
        refine wpAnyL_ready (rs := [10]) (by kernel_rfl) (by simp) ?_; refine AllReadyL.cons rfl (fun K hK => ?_) AllReadyL.nil
        rw [if_pos (by rfl)]
        refine wp_store_all 53 (.tmp 8) (.tmp 38) rfl _ #[.slice av' 256 cv'] rfl rfl 53 #[.slice none 0 0] (At.newq rfl) (by kernel_rfl) rfl (by simp [Value.oneCell']) ?_
        intro w7 hA7 hF7
        have hsz4 := hG5.size
        have hsz6 : w4.drew.heap.size = w4.heap.size := rfl
        have hsz5 : w4.heap.size ≤ w5.heap.size := hf5.size
        refine hK.out _ _ (fun _ => hHeld.trans hF7 (by simp <;> omega)) (fun hHeld' => ?_); have hHeld := hHeld' (by decide); clear hHeld' hK K; (try (refine wpAnyL_norm (by simp only [Act.put, List.setIfInBounds_toArray, List.set_cons_zero, List.set_cons_succ]; rfl) ?_))
        refine wpAnyL_take (i := 11) (v := ?_) rfl (by kernel_rfl) (fun _ _ _ h => h) (Or.inl ⟨by rfl, ?_⟩) (by assumption) ?_; rotate_left; (focus (intro w hSw; skip; go_simp; (try with_reducible rfl))); (try (refine wpAnyL_norm (by simp only [Act.put, List.setIfInBounds_toArray, List.set_cons_zero, List.set_cons_succ]; rfl) ?_))
        refine wpAnyL_done (by kernel_rfl) ?_ _
        have h7 := own_fr (own_fr0 h5 hg5) hF7 (own_tq (own_fr0 h5 hg5) (At.newq rfl))
        have m0 := hA7.cell 0
        have m1 := (HT4.out.fr hHeld (by simp)).froz 0
        have m2 := (HT4.out.fr hHeld (by simp)).cell 0
        simp only [List.getElem?_toArray, List.getElem?_cons_zero] at m0 m2
        go_wp2_with fail
        go_roundw
        case rel =>
          have hfs : Fr [q] w7 (w7.setCell ⟨q, 0, none⟩ (.slice av' 256 cv')) := (Fr.refl _ _).set (.inl (by simp)) _
          have hT7 := HT4.out.fr hHeld (by simp)
          refine ⟨k + 1, _, av', cv', by omega, by go_num, ((HP4.out.fr hHeld (by simp) (by simp) (by simp)).fr hfs (by simp; omega) (by simp; omega) (by simp; omega)), hT7.set 0 (.slice av' 256 cv'), own_fr h7 hfs (fun z hz => by simpa using own_ne h7 hT7 (by decide) z hz), (HZ4.out.fr hHeld (by simp)).fr hfs (by simp; omega), (HF4.out.trans0 hHeld).trans hfs (by simp; omega)⟩
        case measure => simp [intOf]; omega
      · go_simp
        refine hK.out _ _ (fun _ => hHeld.alloc _) (fun hHeld' => ?_); have hHeld := hHeld' (by decide); clear hHeld' hK K; (try (refine wpAnyL_norm (by simp only [Act.put, List.setIfInBounds_toArray, List.set_cons_zero, List.set_cons_succ]; rfl) ?_))
        refine wpAnyL_ready (rs := [5]) (by kernel_rfl) (by simp) ?_; refine AllReadyL.cons rfl (fun K hK => ?_) AllReadyL.nil
        go_simp
        have hN := At.new w4.drew 53 #[.slice none 0 0]
        refine (CB.out _ hHeld).mono ?_
        rintro e w5 ⟨v', rfl, h5, hf5⟩
        have hN5 := hN.fr hf5 (by simp)
        obtain ⟨av', cv', rfl, hcv'⟩ := own_slice h5
        refine hK.out _ _ (fun _ => hHeld.trans0 hf5) (fun hHeld' => ?_); have hHeld := hHeld' (by decide); clear hHeld' hK K; (try (refine wpAnyL_norm (by simp only [Act.put, List.setIfInBounds_toArray, List.set_cons_zero, List.set_cons_succ]; rfl) ?_))
        refine wpAnyL_take (i := 6) (v := ?_) rfl (by kernel_rfl) (fun _ _ _ h => h) (Or.inl ⟨by rfl, ?_⟩) (by assumption) ?_; rotate_left; (focus (intro w hSw; skip; go_simp; (try with_reducible rfl))); (try (refine wpAnyL_norm (by simp only [Act.put, List.setIfInBounds_toArray, List.set_cons_zero, List.set_cons_succ]; rfl) ?_))
        refine wpAnyL_take (i := 7) (v := ?_) rfl (by kernel_rfl) (fun _ _ _ h => h) (Or.inl ⟨by rfl, ?_⟩) (by assumption) ?_; rotate_left; (focus (intro w hSw; skip; go_simp; (try with_reducible rfl))); (try (refine wpAnyL_norm (by simp only [Act.put, List.setIfInBounds_toArray, List.set_cons_zero, List.set_cons_succ]; rfl) ?_))
        refine wpAnyL_take (i := 8) (v := ?_) rfl (by kernel_rfl) (fun _ _ _ h => h) (Or.inl ⟨by rfl, ?_⟩) (by assumption) ?_; rotate_left; (focus (intro w hSw; skip; go_simp; (try with_reducible rfl))); (try (refine wpAnyL_norm (by simp only [Act.put, List.setIfInBounds_toArray, List.set_cons_zero, List.set_cons_succ]; rfl) ?_))
        have hG5 : Fr [] w4 _ := hHeld
        refine wpAnyL_ready (rs := [10]) (by kernel_rfl) (by simp) ?_; refine AllReadyL.cons rfl (fun K hK => ?_) AllReadyL.nil
        rw [if_pos (by rfl)]
        refine wp_store_all 53 (.tmp 8) (.tmp 38) rfl _ #[.slice av' 256 cv'] rfl rfl 53 #[.slice none 0 0] hN5 (by kernel_rfl) rfl (by simp [Value.oneCell']) ?_
        intro w7 hA7 hF7
        have hsz4 := hG5.size
        have hsz6 : w4.drew.heap.size = w4.heap.size := rfl
        have hsz5 : w4.heap.size ≤ w5.heap.size := hG5.size
        refine hK.out _ _ (fun _ => hHeld.trans hF7 (by simp <;> omega)) (fun hHeld' => ?_); have hHeld := hHeld' (by decide); clear hHeld' hK K; (try (refine wpAnyL_norm (by simp only [Act.put, List.setIfInBounds_toArray, List.set_cons_zero, List.set_cons_succ]; rfl) ?_))
        refine wpAnyL_take (i := 11) (v := ?_) rfl (by kernel_rfl) (fun _ _ _ h => h) (Or.inl ⟨by rfl, ?_⟩) (by assumption) ?_; rotate_left; (focus (intro w hSw; skip; go_simp; (try with_reducible rfl))); (try (refine wpAnyL_norm (by simp only [Act.put, List.setIfInBounds_toArray, List.set_cons_zero, List.set_cons_succ]; rfl) ?_))
        refine wpAnyL_done (by kernel_rfl) ?_ _
        have h7 := own_fr h5 hF7 (own_tq h5 hN5)
        have m0 := hA7.cell 0
        have m1 := (HT4.out.fr hHeld (by simp)).froz 0
        have m2 := (HT4.out.fr hHeld (by simp)).cell 0
        simp only [List.getElem?_toArray, List.getElem?_cons_zero] at m0 m2
        go_wp2_with fail
        go_roundw
        case rel =>
          have hfs : Fr [q] w7 (w7.setCell ⟨q, 0, none⟩ (.slice av' 256 cv')) := (Fr.refl _ _).set (.inl (by simp)) _
          have hT7 := HT4.out.fr hHeld (by simp)
          refine ⟨k + 1, _, av', cv', by omega, by go_num, ((HP4.out.fr hHeld (by simp) (by simp) (by simp)).fr hfs (by simp; omega) (by simp; omega) (by simp; omega)), hT7.set 0 (.slice av' 256 cv'), own_fr h7 hfs (fun z hz => by simpa using own_ne h7 hT7 (by decide) z hz), (HZ4.out.fr hHeld (by simp)).fr hfs (by simp; omega), (HF4.out.trans0 hHeld).trans hfs (by simp; omega)⟩
        case measure => simp [intOf]; omega
    · have z0 := HZ.out.froz 0
      have z1 := HZ.out.cell 0
      simp only [List.getElem?_toArray, List.getElem?_cons_zero] at z1
      have hqw : q ≠ w.heap.size := by omega
      have hfs : Fr [w.heap.size] wr (wr.setCell ⟨w.heap.size, 0, none⟩ (.slice av 256 cv)) := (Fr.refl _ _).set (.inl (by simp)) _
      have HFS := Lib.hid hfs
      have n0 := ((HZ.out.set 0 (.slice av 256 cv)).cell 0)
      simp only [List.setIfInBounds_toArray, List.set_cons_zero, List.getElem?_toArray, List.getElem?_cons_zero] at n0
      have N0 := Lib.hid n0
      clear n0 hfs
      rcases (show ¬ k < len ∨ (k < len ∧ k = 20) by omega) with hx | ⟨hx, rfl⟩
      all_goals
        go_upto_region 9 with (fail)
        go_region
        all_goals
          go_wp2_with fail
          refine bodyPost_ret (v := .tuple #[.pointer (some ⟨pp, 0, none⟩), .agg #[.slice av 256 cv]]) (by simp [results, Try.results16, go_sem, N0.out]) rfl ⟨f, pp, p, g, _, rfl, ?_, ?_, ?_⟩
          · exact HP.out.fr HFS.out.drew (by simp; omega) (by simp; omega) (by simp; omega)
          · exact own_fr HBs.out HFS.out.drew (own_tq HBs.out HZ.out)
          · exact (HF.out.trans HFS.out (by simp)).drew
end Go.Proofs.Ytilgklpponaoeaa
