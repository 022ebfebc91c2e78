/-
  PaintPlays: whatever is painted, and not any more, a paint answers, and has, what the reference says. No condition.
-/


import Derived.Test.YtkkbbadcickicaaWorks
import Derived.Test.YtkkbbadcickicaaRefAdd
import Derived.Test.YtkkbbadcickicaaArgs
import Derived.Deep.RegionHeld3
import Derived.Deep.DeepCutAuto
import Derived.Deep.CutBlock
set_option linter.unusedVariables false
namespace Go.Proofs.Ytkkbbadcickicaa
open Go.ChangeShapes Go.WideShapes Go.ChangeAt Go.RowKit
namespace paintPlays
theorem fits3 {k0 k1 k2 : IntKind} {cs : List Value} (h : Fits [.i k0, .i k1, .i k2] cs) : ∃ z0 z1 z2 : Int, cs = [.int k0 z0, .int k1 z1, .int k2 z2] ∧ (Lit.int k0 z0).wf = true ∧ (Lit.int k1 z1).wf = true ∧ (Lit.int k2 z2).wf = true := by
  obtain ⟨v0, c1, e0, ⟨z0, rfl, w0⟩, h1⟩ := h.cons
  obtain ⟨v1, c2, e1, ⟨z1, rfl, w1⟩, h2⟩ := h1.cons
  obtain ⟨v2, c3, e2, ⟨z2, rfl, w2⟩, h3⟩ := h2.cons
  rw [e2, h3.nil] at e1
  rw [e1] at e0
  exact ⟨z0, z1, z2, e0, w0, w1, w2⟩
theorem Bs.ne {b n p g m : Nat} {w : World} {v : Value} {f f' : Nat → Bool} (h : Bs b w v n f) (ht : Tg w p g m f') : ∀ q, v.ownBlock = some q → q ≠ g := by
  obtain ⟨h1, h2, h3, c, cs, h4, h5, h6, h7⟩ := ht
  exact own_ne h h6 (by decide)
set_option maxRecDepth 100000 in
theorem walk_bad (a0 : Int) (a1 : Option Addr) (len1 cap1 : Nat) (a2 : Int) (w : World) (h : a0 < 0 ∨ ¬ a0 % 16 = 0 ∨ 262144 < a0) :
    Calls Try.prog 5 #[.int .i64 a0, .slice a1 len1 cap1, .int .u32 a2] w fun e w' => e = .returned (.bool true) ∧ Fr [] w w' := by
  have C1 := Lib.hid fun w => ptnew_bad a0 w h
  have C2 := Lib.hid fun w => r15new_no a0 w h
  clear h
  go_enter Try.func5, Try.ntmps5
  go_wp2_with (first | (go_at_call 7; refine (C1.out _).mono ?_; rintro e w' ⟨rfl, rfl⟩) | (go_at_call 13; refine (C2.out _).mono ?_; rintro e w2 ⟨rfl, hf2⟩) | (go_at_call 12; refine (works15_any _).mono ?_; rintro e w3 ⟨rfl, hf3⟩))
  go_ret
  exact ⟨rfl, Fr.trans0 (by repeat (first | exact Fr.refl _ _ | assumption | refine Fr.trans0 ?_ (by assumption) | refine Fr.drewN ?_ _ | refine Fr.alloc ?_ _ | refine Fr.drew ?_)) hf3⟩
set_option maxHeartbeats 4000000 in
set_option maxRecDepth 100000 in
theorem walk_ok (n : Nat) (hn : n ≤ 16384) (A0 : Int) (hA0 : A0 = (16 * n : Nat)) (a1 : Option Addr) (len1 cap1 : Nat) (a2 : Int) (h20 : 0 ≤ a2) (h21 : a2 ≤ 4294967295) (w : World) (w1 : Elems w a1 len1 [.i .i64, .i .u32, .i .u32]) :
    Calls Try.prog 5 #[.int .i64 A0, .slice a1 len1 cap1, .int .u32 a2] w fun e w' => e = .returned (.bool true) ∧ Fr [] w w' := by
  obtain ⟨hlen, hrec⟩ := w1
  have Hrec := Lib.hid hrec
  have C1 := Lib.hid fun w => ptnew_any n w hn
  have C2 := Lib.hid fun w => r15new_yes n w hn
  rw [← hA0] at C1 C2
  clear hrec hA0
  go_enter Try.func5, Try.ntmps5
  go_wp2_with (first | (go_at_call 7; refine (C1.out _).mono ?_; rintro e w2 ⟨pp, p, g, rfl, h2, hpp, hp, hg, hf2⟩) | (go_at_call 13; refine (C2.out _).mono ?_; rintro e w3 ⟨v, rfl, h3, hf3⟩; obtain ⟨av, cv, rfl, hcv⟩ := own_slice h3))
  have hs2 := hf2.size
  have hs3 := hf3.size
  have hl2 := h2.lt
  have hA := At.new w3 39 #[.slice av n cv]
  have hfa : Fr [] w3 (w3.alloc (.cells #[.slice av n cv] 39)) := (by repeat (first | exact Fr.refl _ _ | assumption | refine Fr.trans0 ?_ (by assumption) | refine Fr.drewN ?_ _ | refine Fr.alloc ?_ _ | refine Fr.drew ?_))
  have H2 := Lib.hid ((h2.fr hf3 (by simp) (by simp) (by simp)).fr hfa (by simp) (by simp) (by simp))
  have H3 := Lib.hid (own_base (own_fr0 h3 hfa) (Nat.zero_le _))
  have HF0 := Lib.hid ((hf2.trans0 hf3).trans0 hfa)
  obtain ⟨q8, hq8⟩ : ∃ q, w3.heap.size = q := ⟨_, rfl⟩
  rw [hq8] at hA hs3 ⊢
  have HA0 := Lib.hid hA
  have hqg : q8 ≠ g ∧ q8 ≠ pp ∧ q8 ≠ p ∧ w.heap.size ≤ q8 := by omega
  obtain ⟨hqg, hqpp, hqp, hqw⟩ := hqg
  clear hA hq8 h2 h3 hf2 hf3 hfa hs2 hs3 hl2 C1 C2
  go_loopw [10] (fun i wr => ∃ (k : Nat) (f : Nat → Bool) (av : Option Addr) (cv : Nat), k ≤ 40 ∧ i = .int .i64 k ∧ Pt wr pp p g n f ∧ At wr q8 39 #[.slice av n cv] ∧ Bs 0 wr (.slice av n cv) n f ∧ Fr [] w wr) (fun i _ => 40 - (intOf i).toNat)
  case atStart => exact ⟨0, _, av, cv, by omega, rfl, H2.out, HA0.out, H3.out, HF0.out⟩
  case round =>
    clear H2 H3 HF0 HA0
    obtain ⟨k, f, av, cv, hk, rfl, hpt, hat, hbs, hf⟩ := hrel
    have HP := Lib.hid hpt
    have HT := Lib.hid hat
    have HBs := Lib.hid hbs
    have hgq := Bs.ne hbs hpt.2.1
    clear hpt hat hbs
    by_cases hlt : k < len1 ∧ k < 40
    · obtain ⟨hl1, hl2⟩ := hlt
      obtain ⟨b, off, rfl, hb, hcells⟩ := Hrec.out.resolve_left (by omega)
      obtain ⟨cs, hfit, hcs⟩ := hcells k hl1
      obtain ⟨z0, z1, z2, rfl, hw0, hw1, hw2⟩ := fits3 hfit
      have hc0 := hcs 0 (by simp)
      have hc1 := hcs 1 (by simp)
      have hc2 := hcs 2 (by simp)
      simp only [List.length_cons, List.length_nil, List.getElem?_cons_zero, List.getElem?_cons_succ, Nat.zero_add, Nat.reduceAdd, Nat.add_zero] at hc0 hc1 hc2
      have bw0 := bounds_i64 hw0
      have bw1 := bounds_u32 hw1
      have bw2 := bounds_u32 hw2
      obtain ⟨bw10, bw11⟩ := bw1
      obtain ⟨bw20, bw21⟩ := bw2
      have k0 := (hf.cell (a := ⟨b, off + k * 3, none⟩) hb (by simp)).trans hc0
      have k1 : wr.cell? ⟨b, off + k * 3 + 1, none⟩ = _ := (hf.cell (a := ⟨b, off + (k * 3 + 1), none⟩) hb (by simp)).trans hc1
      have k2 : wr.cell? ⟨b, off + k * 3 + 1 + 1, none⟩ = _ := (hf.cell (a := ⟨b, off + (k * 3 + 2), none⟩) hb (by simp)).trans hc2
      have k3 : wr.cell? ⟨b, off + k * 3 + 2, none⟩ = _ := (hf.cell (a := ⟨b, off + (k * 3 + 2), none⟩) hb (by simp)).trans hc2
      clear hcs hcells hw0 hw1 hw2
      go_upto_block 2 with (fail)
      go_cut [11, 12] (fun s11 s12 wx => ∃ (f' : Nat → Bool) (av' : Option Addr) (cv' : Nat) (x : Bool), s11 = .bool x ∧ s12 = .bool x ∧ Pt wx pp p g n f' ∧ At wx q8 39 #[.slice av' n cv'] ∧ Bs 0 wx (.slice av' n cv') n f' ∧ Fr [] w wx)
      case first =>
        have hbw : b < wr.heap.size := by have := hf.size; omega
        by_cases hz0 : z0 = 0
        · subst hz0
          have CA := Lib.hid (ptadd_any wr pp p g n f HP.out z1 z2 bw10 bw11 bw20 bw21)
          have CB := Lib.hid fun W (h : Bs 0 W (.slice av n cv) n f) => r15add_any W 0 _ n f h hn z1 z2 bw10 bw11 bw20 bw21
          obtain ⟨x, hx⟩ : ∃ x, okC n f z1 z2 true = x := ⟨_, rfl⟩
          obtain ⟨f', hf'⟩ : ∃ f', newC n f z1 z2 true = f' := ⟨_, rfl⟩
          rw [hx, hf'] at CA CB
          clear hx hf'
          go_wp2_with (go_at_call 8; refine (CA.out).mono ?_; rintro e w4 ⟨rfl, h4, hf4⟩)
          have HP4 := Lib.hid h4
          have HT4 := Lib.hid (HT.out.fr hf4 (by simp; omega))
          have HB4 := Lib.hid (own_fr HBs.out hf4 (fun q hq => by simp; exact hgq q hq))
          have HF4 := Lib.hid (hf.trans hf4 (by simp; omega))
          have cA := HT4.out.cell 0
          have fA := HT4.out.froz 0
          simp only [List.getElem?_toArray, List.getElem?_cons_zero] at cA
          replace k1 := (hf4.cell (a := ⟨b, off + k * 3 + 1, none⟩) hbw (by simp; omega)).trans k1
          replace k2 := (hf4.cell (a := ⟨b, off + k * 3 + 1 + 1, none⟩) hbw (by simp; omega)).trans k2
          replace k3 := (hf4.cell (a := ⟨b, off + k * 3 + 2, none⟩) hbw (by simp; omega)).trans k3
          clear k0 h4 hf4 hf HP HT HBs
          go_region_with (go_at_call 14; refine (CB.out _ (own_heap HB4.out (by rfl))).mono ?_; rintro e w5 ⟨v', rfl, h5, hf5⟩; obtain ⟨av', cv', rfl, hcv'⟩ := own_slice h5; have q5 := (HT4.out.frh hf5 (by rfl) (by simp)).froz 0; have q6 := (HT4.out.frh hf5 (by rfl) (by simp)).cell 0; simp only [List.getElem?_toArray, List.getElem?_cons_zero] at q6)
          all_goals
            have hfs : Fr [q8] w5 (w5.setCell ⟨q8, 0, none⟩ (.slice av' n cv')) := (Fr.refl _ _).set (.inl (by simp)) _
            go_wp2_with fail
            go_meet
            exact ⟨f', av', cv', x, rfl, rfl, ((HP4.out.heap (w' := w4.drew) rfl).fr hf5 (by simp) (by simp) (by simp)).fr hfs (by simp; omega) (by simp; omega) (by simp; omega), (HT4.out.frh hf5 rfl (by simp)).set 0 (.slice av' n cv'), own_fr h5 hfs (fun q hq => by simp; exact own_ne h5 (HT4.out.frh hf5 rfl (by simp)) (by decide) q hq), ((HF4.out.drew).trans0 hf5).trans hfs (by simp; omega)⟩
        · by_cases hz1 : z0 = 1
          · subst hz1
            have CA := Lib.hid (ptrem_any wr pp p g n f HP.out z1 z2 bw10 bw11 bw20 bw21)
            have CB := Lib.hid fun W (h : Bs 0 W (.slice av n cv) n f) => r15rem_any W 0 _ n f h hn z1 z2 bw10 bw11 bw20 bw21
            obtain ⟨x, hx⟩ : ∃ x, okC n f z1 z2 false = x := ⟨_, rfl⟩
            obtain ⟨f', hf'⟩ : ∃ f', newC n f z1 z2 false = f' := ⟨_, rfl⟩
            rw [hx, hf'] at CA CB
            clear hx hf'
            go_wp2_with (go_at_call 9; refine (CA.out).mono ?_; rintro e w4 ⟨rfl, h4, hf4⟩)
            have HP4 := Lib.hid h4
            have HT4 := Lib.hid (HT.out.fr hf4 (by simp; omega))
            have HB4 := Lib.hid (own_fr HBs.out hf4 (fun q hq => by simp; exact hgq q hq))
            have HF4 := Lib.hid (hf.trans hf4 (by simp; omega))
            have cA := HT4.out.cell 0
            have fA := HT4.out.froz 0
            simp only [List.getElem?_toArray, List.getElem?_cons_zero] at cA
            replace k1 := (hf4.cell (a := ⟨b, off + k * 3 + 1, none⟩) hbw (by simp; omega)).trans k1
            replace k2 := (hf4.cell (a := ⟨b, off + k * 3 + 1 + 1, none⟩) hbw (by simp; omega)).trans k2
            replace k3 := (hf4.cell (a := ⟨b, off + k * 3 + 2, none⟩) hbw (by simp; omega)).trans k3
            clear k0 h4 hf4 hf HP HT HBs
            go_region_with (go_at_call 15; refine (CB.out _ (own_heap HB4.out (by rfl))).mono ?_; rintro e w5 ⟨v', rfl, h5, hf5⟩; obtain ⟨av', cv', rfl, hcv'⟩ := own_slice h5; have q5 := (HT4.out.frh hf5 (by rfl) (by simp)).froz 0; have q6 := (HT4.out.frh hf5 (by rfl) (by simp)).cell 0; simp only [List.getElem?_toArray, List.getElem?_cons_zero] at q6)
            all_goals
              have hfs : Fr [q8] w5 (w5.setCell ⟨q8, 0, none⟩ (.slice av' n cv')) := (Fr.refl _ _).set (.inl (by simp)) _
              go_wp2_with fail
              go_meet
              exact ⟨f', av', cv', x, rfl, rfl, ((HP4.out.heap (w' := w4.drew) rfl).fr hf5 (by simp) (by simp) (by simp)).fr hfs (by simp; omega) (by simp; omega) (by simp; omega), (HT4.out.frh hf5 rfl (by simp)).set 0 (.slice av' n cv'), own_fr h5 hfs (fun q hq => by simp; exact own_ne h5 (HT4.out.frh hf5 rfl (by simp)) (by decide) q hq), ((HF4.out.drew).trans0 hf5).trans hfs (by simp; omega)⟩
          · have hd0 : (z0 == 0) = false := by simp; omega
            have hd1 : (z0 == 1) = false := by simp; omega
            clear hz0 hz1
            go_wp2_with fail
            refine (ptcopy_any _ pp p g n f HP.out).mono ?_
            rintro e w4 ⟨pp', p', g', rfl, h4, hpp4, hp4, hg4, hf4⟩
            have hpl := HP.out.lt
            have hql := HT.out.lt
            have hws := hf.size
            have HP4 := Lib.hid (HP.out.fr hf4 (by simp) (by simp) (by simp))
            have HT4 := Lib.hid (HT.out.fr hf4 (by simp))
            have HB4 := Lib.hid (own_fr0 HBs.out hf4)
            have HF4 := Lib.hid (hf.trans0 hf4)
            have hgq4 : ∀ q, (Value.slice av n cv).ownBlock = some q → q ≠ g' := fun q hq => by have := (World.ownsRow.lt HBs.out q hq).2; omega
            have HGQ := Lib.hid hgq4
            replace k1 := (hf4.cell (a := ⟨b, off + k * 3 + 1, none⟩) hbw (by simp)).trans k1
            replace k2 := (hf4.cell (a := ⟨b, off + k * 3 + 1 + 1, none⟩) hbw (by simp)).trans k2
            have hs4 := hf4.size
            clear k0 k3 hf HP HT HBs hgq hf4 hgq4
            have CA := Lib.hid (ptadd_any w4 pp' p' g' n f h4 z1 z2 bw10 bw11 bw20 bw21)
            obtain ⟨x, hx⟩ : ∃ x, okC n f z1 z2 true = x := ⟨_, rfl⟩
            rw [hx] at CA
            clear hx h4
            cases x
            · go_wp2_with fail
              refine (CA.out).mono ?_
              rintro e w5 ⟨rfl, h5, hf5⟩
              replace k1 := (hf5.cell (a := ⟨b, off + k * 3 + 1, none⟩) (by show b < _; omega) (by simp; omega)).trans k1
              replace k2 := (hf5.cell (a := ⟨b, off + k * 3 + 1 + 1, none⟩) (by show b < _; omega) (by simp; omega)).trans k2
              go_wp2_with fail
              refine (ptrem_any w5 pp' p' g' n _ h5 z1 z2 bw10 bw11 bw20 bw21).mono ?_
              rintro e w6 ⟨rfl, h6, hf6⟩
              go_wp2_with fail
              go_meet
              exact ⟨f, av, cv, true, rfl, rfl, (HP4.out.fr hf5 (by simp; omega) (by simp; omega) (by simp; omega)).fr hf6 (by simp; omega) (by simp; omega) (by simp; omega), (HT4.out.fr hf5 (by simp; omega)).fr hf6 (by simp; omega), own_fr (own_fr HB4.out hf5 (fun q hq => by simp; exact HGQ.out q hq)) hf6 (fun q hq => by simp; exact HGQ.out q hq), (HF4.out.trans hf5 (by simp; omega)).trans hf6 (by simp; omega)⟩
            · go_wp2_with fail
              refine (CA.out).mono ?_
              rintro e w5 ⟨rfl, h5, hf5⟩
              go_wp2_with fail
              go_meet
              exact ⟨f, av, cv, true, rfl, rfl, HP4.out.fr hf5 (by simp; omega) (by simp; omega) (by simp; omega), HT4.out.fr hf5 (by simp; omega), own_fr HB4.out hf5 (fun q hq => by simp; exact HGQ.out q hq), HF4.out.trans hf5 (by simp; omega)⟩
      case rest =>
        obtain ⟨f', av', cv', x, rfl, rfl, hPX, hAX, hBX, hFX⟩ := hcut
        clear HP HT HBs hgq k0 k1 k2 k3 hf
        rename World => X
        have HP := Lib.hid hPX
        have HA := Lib.hid hAX
        have HB := Lib.hid hBX
        have HF := Lib.hid hFX
        clear hPX hAX hBX hFX
        have cA := HA.out.cell 0
        simp only [List.getElem?_toArray, List.getElem?_cons_zero] at cA
        have k1 : X.cell? ⟨b, off + k * 3 + 1, none⟩ = _ := (HF.out.cell (a := ⟨b, off + (k * 3 + 1), none⟩) hb (by simp)).trans hc1
        have k2 : X.cell? ⟨b, off + k * 3 + 1 + 1, none⟩ = _ := (HF.out.cell (a := ⟨b, off + (k * 3 + 2), none⟩) hb (by simp)).trans hc2
        have k3 : X.cell? ⟨b, off + k * 3 + 2, none⟩ = _ := (HF.out.cell (a := ⟨b, off + (k * 3 + 2), none⟩) hb (by simp)).trans hc2
        obtain ⟨B, hB⟩ : ∃ B, IntKind.u32.wrap (z1 + z2) = B := ⟨_, rfl⟩
        obtain ⟨B1, hB1⟩ : ∃ B1, IntKind.u32.wrap (B - 1) = B1 := ⟨_, rfl⟩
        obtain ⟨hB0, hB2⟩ : 0 ≤ B ∧ B ≤ 4294967295 := by have := bounds_u32 (wf_wrap .u32 (z1 + z2)); rw [hB] at this; exact this
        obtain ⟨hB3, hB4⟩ : 0 ≤ B1 ∧ B1 ≤ 4294967295 := by have := bounds_u32 (wf_wrap .u32 (B - 1)); rw [hB1] at this; exact this
        go_wp2
        go_quiet (fail)
        go_wp2
        have hii : ∀ i : Int, (i != i) = false := fun i => by simp
        have hbb : ∀ i : Bool, (i != i) = false := fun i => by simp
        go_region_held3 (fun w' => w'.cell? ⟨q8, 0, none⟩ = some (.slice av' n cv')) (first | exact (HA.out.fr (S := []) (by repeat (first | exact Fr.refl _ _ | assumption | refine Fr.trans0 ?_ (by assumption) | refine Fr.drewN ?_ _ | refine Fr.alloc ?_ _ | refine Fr.drew ?_)) (by simp)).cell 0 | go_keep) (first | (go_at_call 11; refine Calls.mono (ptcount_any _ pp p g n f' (HP.out.fr (S := []) (by repeat (first | exact Fr.refl _ _ | assumption | refine Fr.trans0 ?_ (by assumption) | refine Fr.drewN ?_ _ | refine Fr.alloc ?_ _ | refine Fr.drew ?_)) (by simp) (by simp) (by simp))) ?_; rintro e w' ⟨rfl, rfl⟩) | (go_at_call 17; refine Calls.mono (r15count_any _ 0 _ n f' (own_fr0 HB.out (by repeat (first | exact Fr.refl _ _ | assumption | refine Fr.trans0 ?_ (by assumption) | refine Fr.drewN ?_ _ | refine Fr.alloc ?_ _ | refine Fr.drew ?_))) hn) ?_; rintro e w' ⟨rfl, hfc⟩) | (go_at_call 10; refine Calls.mono (pthas_any _ pp p g n f' (HP.out.fr (S := []) (by repeat (first | exact Fr.refl _ _ | assumption | refine Fr.trans0 ?_ (by assumption) | refine Fr.drewN ?_ _ | refine Fr.alloc ?_ _ | refine Fr.drew ?_)) (by simp) (by simp) (by simp)) _ (by omega) (by omega)) ?_; rintro e w' ⟨rfl, rfl⟩) | (go_at_call 18; refine Calls.mono (r15has_any _ 0 _ n f' (own_fr0 HB.out (by repeat (first | exact Fr.refl _ _ | assumption | refine Fr.trans0 ?_ (by assumption) | refine Fr.drewN ?_ _ | refine Fr.alloc ?_ _ | refine Fr.drew ?_))) hn _ (by omega) (by omega)) ?_; rintro e w' ⟨rfl, hfh⟩))
        go_wp2
        go_roundw
        case rel => exact ⟨k + 1, f', av', cv', by omega, by go_num, HP.out.fr (S := []) (by repeat (first | exact Fr.refl _ _ | assumption | refine Fr.trans0 ?_ (by assumption) | refine Fr.drewN ?_ _ | refine Fr.alloc ?_ _ | refine Fr.drew ?_)) (by simp) (by simp) (by simp), HA.out.fr (S := []) (by repeat (first | exact Fr.refl _ _ | assumption | refine Fr.trans0 ?_ (by assumption) | refine Fr.drewN ?_ _ | refine Fr.alloc ?_ _ | refine Fr.drew ?_)) (by simp), own_fr0 HB.out (by repeat (first | exact Fr.refl _ _ | assumption | refine Fr.trans0 ?_ (by assumption) | refine Fr.drewN ?_ _ | refine Fr.alloc ?_ _ | refine Fr.drew ?_)), HF.out.trans0 (by repeat (first | exact Fr.refl _ _ | assumption | refine Fr.trans0 ?_ (by assumption) | refine Fr.drewN ?_ _ | refine Fr.alloc ?_ _ | refine Fr.drew ?_))⟩
        case measure => simp [intOf]; omega
    · have h5 : ¬ (k < len1 ∧ k < 40) := hlt
      by_cases h1 : k < len1
      all_goals
        go_wp2_with (go_at_call 12; refine (works15_any _).mono ?_; rintro e w6 ⟨rfl, hf6⟩)
        go_ret
        exact ⟨rfl, hf.trans0 hf6⟩
theorem walk (a0 : Int) (w0 : (Lit.int .i64 a0).wf = true) (a1 : Option Addr) (len1 cap1 : Nat) (a2 : Int) (w2 : (Lit.int .u32 a2).wf = true) (w : World) (w1 : Elems w a1 len1 [.i .i64, .i .u32, .i .u32]) :
    Calls Try.prog 5 #[.int .i64 a0, .slice a1 len1 cap1, .int .u32 a2] w fun e w' => e = .returned (.bool true) ∧ Fr [] w w' := by
  have hb := bounds_u32 w2
  by_cases h : a0 < 0 ∨ ¬ a0 % 16 = 0 ∨ 262144 < a0
  · exact walk_bad a0 a1 len1 cap1 a2 w h
  · exact walk_ok (a0 / 16).toNat (by omega) a0 (by omega) a1 len1 cap1 a2 (by omega) (by omega) w w1
theorem laidOut : laidOutB Try.prog = true := by kernel_rfl
set_option maxRecDepth 100000 in
theorem lifted (os : Os) (started : os.Started) (H : Type) (enc : TypeId × Value → H) :
    ReturnsInHanded {} Try.checked os 5 .any (Rows.paintPlaysSpec.pre6 enc Try.prog Try.f5 Rows.paintPlaysRow.domain false) (Rows.paintPlaysSpec.post enc Try.prog Try.f5 false true false false) := by
  refine returnsInHanded_of_change (C := Try.checked) own started (by kernel_rfl) Try.func5
    (ChangeSpec.witness6 (enc := enc) (C := Try.checked) false ⟨#[], #[.int .i64 0, .slice none 0 0, .int .u32 0], []⟩ 8 (by kernel_rfl) (by kernel_rfl) (by kernel_rfl) (by kernel_rfl)) ?_
  intro W base args ds gs before hval0 hW hcnd _
  have hval : ∀ (j : Nat) t v, Try.f5.params[j]? = some t → args[j]? = some v → Value.okWide Try.prog W .any base t v := hval0
  have hW' := hW
  obtain ⟨p, q, hA0, hV, rfl, hfz, hnd⟩ := hW
  have hA : DataW.TrodAll enc Try.prog W 0 (fun _ => true) true Try.f5.params.toList args.toList ds p := hA0
  rw [Try.params5] at hA hval
  obtain ⟨v0, vs0, d0, ds0, p0, q0, hargs, rfl, rfl, h0, r0⟩ := trodAll_cons hA
  obtain ⟨v1, vs1, d1, ds1, p1, q1, rfl, rfl, rfl, h1, r1⟩ := trodAll_cons r0
  obtain ⟨v2, vs2, d2, ds2, p2, q2, rfl, rfl, rfl, h2, r2⟩ := trodAll_cons r1
  obtain ⟨rfl, rfl, rfl⟩ := trodAll_nil r2
  obtain rfl : args = #[v0, v1, v2] := by cases args; simp_all
  obtain ⟨rfl, rfl⟩ := trodVars_none hV
  obtain ⟨a0, rfl, rfl, rfl, w0⟩ := open_int Try.underlying3 (hval 0 3 v0 rfl rfl) h0
  obtain ⟨a1, len1, cap1, rfl⟩ := okWide_slice Try.underlying36 (hval 1 36 v1 rfl rfl)
  have k1 := h1
  have lt1 : ∀ x ∈ p1, x.block < W.heap.size := by obtain ⟨m, hm⟩ := k1; exact DataW.trod_lt m _ _ _ hm
  have w1 : Elems W a1 len1 [.i .i64, .i .u32, .i .u32] := by
    obtain ⟨fuel, hf⟩ := h1
    exact open_elems (n := 20) Try.underlying36 (by kernel_rfl : flat Try.prog 20 43 = some [.i .i64, .i .u32, .i .u32]) (by kernel_rfl) (by decide) hf
  obtain ⟨a2, rfl, rfl, rfl, w2⟩ := open_int Try.underlying26 (hval 2 26 v2 rfl rfl) h2
  clear hA0 hval0
  refine (walk a0 w0 a1 len1 cap1 a2 w2 W w1).mono fun e W' ⟨he, hg⟩ => ?_
  subst he
  have bel := hg.below
  exact ⟨_, rfl, _, _, _, [], _, [], hW', trodAll_mk1 (shut_bool Try.underlying4 _), (trodAll_cons_mk (shut_int Try.underlying3 w0) (trodAll_cons_mk (Below.trod laidOut (by kernel_rfl) (of_decide_eq_true (by kernel_rfl)) k1 bel lt1) (trodAll_cons_mk (shut_int Try.underlying26 w2) trodAll_mk0))), rfl, bel.frame _, fun h => by cases h⟩
theorem over : Rows.paintPlaysRow.holds Try.pinned (OpenSpec.ofChange Rows.paintPlaysSpec) :=
  OpenClaim.holds_of_wide 5 Try.f5 rfl rfl rfl rfl rfl rfl rfl ⟨rfl, rfl, rfl, rfl, rfl⟩ rfl rfl rfl rfl rfl (by kernel_rfl) Try.func5 (by kernel_rfl)
    (of_decide_eq_true (by kernel_rfl)) (by unfold Func.isWrapper; first | (rw [if_pos (by decide +kernel)]; kernel_rfl) | (rw [if_neg (by decide +kernel)]; exact ⟨rfl, rfl⟩))
    (fun os started H enc _ => lifted os started H enc)
/-- The statement, proved. -/
theorem proved : Rows.PaintPlaysSaid :=
  over
end paintPlays
end Go.Proofs.Ytkkbbadcickicaa
