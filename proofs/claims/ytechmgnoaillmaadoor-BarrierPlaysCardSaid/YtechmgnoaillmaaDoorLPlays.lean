/-
  BarrierPlays: a book does what the document says, step by step. Condition: the table of math/bits is as the library lays it (the row lists it).
-/



import Derived.Test.YtechmgnoaillmaaDoorWorks
import Derived.Test.YtechmgnoaillmaaDoorRef
import Derived.Test.YtechmgnoaillmaaDoorArgs
import Derived.Test.YtechmgnoaillmaaDoorDoor
import Derived.Deep.RegionHeld3
import Derived.Deep.DeepCutAuto
import Derived.Deep.CutBlock
set_option linter.unusedVariables false
namespace Go.Proofs.YtechmgnoaillmaaDoor
open Go.ChangeShapes Go.WideShapes Go.ChangeAt Go.RowKit
namespace barrierPlays
theorem fits3 {k0 k1 k2 : IntKind} {cs : List Value} (h : Fits [.i k0, .i k1, .i k2] cs) : ∃ z0 z1 z2 : Int, cs = [.int k0 z0, .int k1 z1, .int k2 z2] ∧ (Lit.int k0 z0).wf = true ∧ (Lit.int k1 z1).wf = true ∧ (Lit.int k2 z2).wf = true := by
  obtain ⟨v0, c1, e0, ⟨z0, rfl, w0⟩, h1⟩ := h.cons
  obtain ⟨v1, c2, e1, ⟨z1, rfl, w1⟩, h2⟩ := h1.cons
  obtain ⟨v2, c3, e2, ⟨z2, rfl, w2⟩, h3⟩ := h2.cons
  rw [e2, h3.nil] at e1
  rw [e1] at e0
  exact ⟨z0, z1, z2, e0, w0, w1, w2⟩
theorem Bs.ne {b n p g m : Nat} {w : World} {v : Value} {f f' : Nat → Bool} (h : Bs b w v n f) (ht : Tg w p g m f') : ∀ q, v.ownBlock = some q → q ≠ g := by
  obtain ⟨h1, h2, h3, c, cs, h4, h5, h6, h7⟩ := ht
  exact own_ne h h6 (by decide)
theorem Bs.neG {b n gp p g m : Nat} {w : World} {v : Value} {f f' : Nat → Bool} {ep : Int} (h : Bs b w v n f) (ht : Gn w gp p g m f' ep) : ∀ q, v.ownBlock = some q → q ≠ gp := own_ne h ht.1 (by decide)
theorem gmark_ever (w : World) (gp p g n : Nat) (f : Nat → Bool) (ep : Int) (h : Gn w gp p g n f ep) (i : Nat) :
    Calls Tryd.prog 11 #[.pointer (some ⟨gp, 0, none⟩), .int .i64 i] w fun e w' => ∃ b f', e = .returned (.bool b) ∧ Gn w' gp p g n f' ep ∧ Fr [g] w w' := by
  cases hk : (inR (i : Int) n && f (i : Int).toNat) with
  | false => exact (gmark_no w gp p g n f ep h i hk).mono fun e w' ⟨he, hw⟩ => ⟨false, f, he, hw ▸ h, hw ▸ Fr.refl _ _⟩
  | true =>
    rw [Bool.and_eq_true] at hk
    have h1 := hk.1
    unfold inR at h1
    simp at h1
    exact (gmark_yes w gp p g n f ep h i (by omega) (by simpa using hk.2)).mono fun e w' ⟨he, h1, h2⟩ => ⟨true, _, he, h1, h2⟩
/-- One step of Mark, both ways: what it answers, and what is old behind it. -/
def mkF (f : Nat → Bool) (n : Nat) (i : Int) : Nat → Bool := if (inR i n && f i.toNat) = true then upd f i.toNat false else f
theorem gmark_all (w : World) (gp p g n : Nat) (f : Nat → Bool) (ep : Int) (h : Gn w gp p g n f ep) (i : Int) :
    Calls Tryd.prog 11 #[.pointer (some ⟨gp, 0, none⟩), .int .i64 i] w fun e w' => e = .returned (.bool (inR i n && f i.toNat)) ∧ Gn w' gp p g n (mkF f n i) ep ∧ Fr [g] w w' := by
  cases hk : (inR i n && f i.toNat) with
  | false => exact (gmark_no w gp p g n f ep h i hk).mono fun e w' ⟨he, hw⟩ => ⟨he, by unfold mkF; rw [if_neg (by rw [hk]; simp)]; exact hw ▸ h, hw ▸ Fr.refl _ _⟩
  | true =>
    have hk' := hk
    rw [Bool.and_eq_true] at hk
    have h1 := hk.1
    unfold inR at h1
    simp at h1
    obtain ⟨j, rfl⟩ := Int.eq_ofNat_of_zero_le (show 0 ≤ i by omega)
    have h2 := hk.2
    rw [Int.toNat_natCast] at h2
    exact (gmark_yes w gp p g n f ep h j (by omega) h2).mono fun e w' ⟨he, h1, h2⟩ => ⟨he, by unfold mkF; rw [if_pos hk', Int.toNat_natCast]; exact h1, h2⟩
theorem r18mark_all (w : World) (b : Nat) (ep : Int) (v : Value) (n : Nat) (f : Nat → Bool) (h : Bs 0 w v n f) (hn : n ≤ 1024) (i : Int) :
    Calls Tryd.prog 15 #[.agg #[.int .u64 ep, v], .int .i64 i] w fun e w' => ∃ v', e = .returned (.tuple #[.agg #[.int .u64 ep, v'], .bool (inR i n && f i.toNat)]) ∧ Bs 0 w' v' n (mkF f n i) ∧ Fr [] w w' := by
  cases hk : (inR i n && f i.toNat) with
  | false => exact (r18mark_no w 0 ep v n f h hn i hk).mono fun e w' ⟨he, hw⟩ => ⟨v, he, by unfold mkF; rw [if_neg (by rw [hk]; simp)]; exact own_fr0 h hw, hw⟩
  | true =>
    have hk' := hk
    rw [Bool.and_eq_true] at hk
    have h1 := hk.1
    unfold inR at h1
    simp at h1
    obtain ⟨j, rfl⟩ := Int.eq_ofNat_of_zero_le (show 0 ≤ i by omega)
    have h2 := hk.2
    rw [Int.toNat_natCast] at h2
    exact (r18mark_yes w 0 ep v n f h hn j (by omega) h2).mono fun e w' ⟨v', he, h1, h2⟩ => ⟨v', he, by unfold mkF; rw [if_pos hk', Int.toNat_natCast]; exact h1, h2⟩
def stB (f : Nat → Bool) (n : Nat) (ep e : Int) : Bool := decide (ep < e ∧ cnt f n = 0)
def stF (f : Nat → Bool) (n : Nat) (ep e : Int) : Nat → Bool := if stB f n ep e = true then fstF n else f
def stE (f : Nat → Bool) (n : Nat) (ep e : Int) : Int := if stB f n ep e = true then e else ep
theorem gstart_all (w : World) (gp p g n : Nat) (f : Nat → Bool) (ep : Int) (h : Gn w gp p g n f ep) (e : Int) :
    Calls Tryd.prog 9 #[.pointer (some ⟨gp, 0, none⟩), .int .u64 e] w fun r w' => r = .returned (.bool (stB f n ep e)) ∧ Gn w' gp p g n (stF f n ep e) (stE f n ep e) ∧ Fr [gp, g] w w' := by
  by_cases hc : ep < e ∧ cnt f n = 0
  · have hb : stB f n ep e = true := decide_eq_true hc
    unfold stF stE
    rw [if_pos hb, if_pos hb, hb]
    exact gstart_yes w gp p g n f ep h e hc.1 hc.2
  · have hb : stB f n ep e = false := decide_eq_false hc
    unfold stF stE
    rw [if_neg (by rw [hb]; simp), if_neg (by rw [hb]; simp), hb]
    exact (gstart_no w gp p g n f ep h e (by omega)).mono fun _ w' ⟨he, hw⟩ => ⟨he, hw ▸ h, hw ▸ Fr.refl _ _⟩
theorem r18start_all (w : World) (ep : Int) (v : Value) (n : Nat) (f : Nat → Bool) (h : Bs 0 w v n f) (hn : n ≤ 1024) (e : Int) :
    Calls Tryd.prog 16 #[.agg #[.int .u64 ep, v], .int .u64 e] w fun r w' => ∃ v', r = .returned (.tuple #[.agg #[.int .u64 (stE f n ep e), v'], .bool (stB f n ep e)]) ∧ Bs 0 w' v' n (stF f n ep e) ∧ Fr [] w w' := by
  by_cases hc : ep < e ∧ cnt f n = 0
  · have hb : stB f n ep e = true := decide_eq_true hc
    unfold stF stE
    rw [if_pos hb, if_pos hb, hb]
    exact r18start_yes w 0 ep v n f h hn e hc.1 hc.2
  · have hb : stB f n ep e = false := decide_eq_false hc
    unfold stF stE
    rw [if_neg (by rw [hb]; simp), if_neg (by rw [hb]; simp), hb]
    exact (r18start_no w 0 ep v n f h hn e (by omega)).mono fun _ w' ⟨he, hw⟩ => ⟨v, he, own_fr0 h hw, hw⟩
set_option maxHeartbeats 1000000 in
set_option maxRecDepth 100000 in
theorem walk_bad (a0 : Int) (a1 : Option Addr) (len1 cap1 : Nat) (hlen : len1 ≤ 9223372036854775807) (w : World) (hT : Tab w) (h : a0 < 0 ∨ 1024 < a0) :
    Calls Tryd.prog 5 #[.int .i64 a0, .slice a1 len1 cap1] w fun e w' => e = .returned (.bool true) ∧ Fr [] w w' := by
  have C1 := Lib.hid fun w => gnew_bad a0 w h
  have C2 := Lib.hid fun w => r18new_no a0 w h
  have HT := Lib.hid hT
  clear h hT
  go_enter Tryd.func5, Tryd.ntmps5
  go_wp2_with (first | (go_at_call 8; refine (C1.out _).mono ?_; rintro e w' ⟨rfl, rfl⟩) | (go_at_call 14; refine (C2.out _).mono ?_; rintro e w2 ⟨rfl, hf2⟩))
  have hA := At.new w2 39 #[.int .u64 0, .slice none 0 0]
  have HA := Lib.hid hA
  have HF0 := Lib.hid (hf2.alloc (.cells #[.int .u64 0, .slice none 0 0] 39))
  obtain ⟨q6, hq6⟩ : ∃ q, w2.heap.size = q := ⟨_, rfl⟩
  obtain ⟨w3, hw3⟩ : ∃ X, w2.alloc (.cells #[.int .u64 0, .slice none 0 0] 39) = X := ⟨_, rfl⟩
  rw [hq6] at HA ⊢
  rw [hw3] at HA HF0 ⊢
  clear hA hq6 hw3 hf2 C1 C2
  have c0 := HA.out.cell 0
  have c1 := HA.out.cell 1
  simp only [List.getElem?_toArray, List.getElem?_cons_zero, List.getElem?_cons_succ] at c0 c1
  by_cases hl : 0 < len1
  all_goals
    refine wp_loop_rounds 1 ?_
    rw [rounds_succ]
    go_wp2
    go_loopw [18] (fun i wr => ∃ I : Int, -1 ≤ I ∧ I ≤ 1 ∧ i = .int .i64 I ∧ Fr [] w3 wr) (fun i _ => (1 - intOf i).toNat)
    case atStart => exact ⟨-1, by omega, by omega, rfl, Fr.refl _ _⟩
    case round =>
      clear c0 c1
      obtain ⟨I, hI1, hI2, rfl, hf⟩ := hrel
      have HF := Lib.hid hf
      have HX := Lib.hid (HA.out.fr hf (by simp))
      have c0 := HX.out.cell 0
      have c1 := HX.out.cell 1
      simp only [List.getElem?_toArray, List.getElem?_cons_zero, List.getElem?_cons_succ] at c0 c1
      clear hf
      by_cases hI : I ≤ 0
      · have O : Hid ((inR I 0 && false) = false) := Lib.hid (by simp)
        have hbb : ∀ i : Bool, (i != i) = false := fun i => by simp
        have R := Lib.hid fun W (hW : Fr [] wr W) => r18old_any W 0 0 (.slice none 0 0) 0 (fun _ => false) (World.ownsRow_nil _ _ _ _) (by omega) I
        rw [O.out] at R
        go_wp2
        go_region_held3 (fun w' => w'.cell? ⟨q6, 0, none⟩ = some (.int .u64 0) ∧ w'.cell? ⟨q6, 1, none⟩ = some (.slice none 0 0)) (first | exact ⟨(HX.out.fr (S := []) (by repeat (first | exact Fr.refl _ _ | assumption | refine Fr.trans0 ?_ (by assumption) | refine Fr.drewN ?_ _ | refine Fr.alloc ?_ _ | refine Fr.drew ?_)) (by simp)).cell 0, (HX.out.fr (S := []) (by repeat (first | exact Fr.refl _ _ | assumption | refine Fr.trans0 ?_ (by assumption) | refine Fr.drewN ?_ _ | refine Fr.alloc ?_ _ | refine Fr.drew ?_)) (by simp)).cell 1⟩ | go_keep) (first | (go_at_call 13; refine Calls.mono (gold_nil _ _) ?_; rintro e w' ⟨rfl, rfl⟩) | (go_at_call 20; refine Calls.mono (R.out _ (by repeat (first | exact Fr.refl _ _ | assumption | refine Fr.trans0 ?_ (by assumption) | refine Fr.drewN ?_ _ | refine Fr.alloc ?_ _ | refine Fr.drew ?_))) ?_; rintro e w' ⟨rfl, hfo⟩))
        all_goals
          go_wp2
          go_roundw
          case rel => exact ⟨I + 1, by omega, by omega, by go_num, HF.out.trans0 (by repeat (first | exact Fr.refl _ _ | assumption | refine Fr.trans0 ?_ (by assumption) | refine Fr.drewN ?_ _ | refine Fr.alloc ?_ _ | refine Fr.drew ?_))⟩
          case measure => simp [intOf]; omega
      · have hI' : 0 < I := by omega
        go_wp2_with fail
        refine (works_any _ (HT.out.fr (HF0.out.trans0 HF.out) (by simp))).mono ?_
        rintro e w5 ⟨rfl, hf5⟩
        go_wp2_with fail
        go_ret
        exact ⟨rfl, (HF0.out.trans0 HF.out).trans0 hf5⟩
set_option maxHeartbeats 8000000 in
set_option maxRecDepth 100000 in
theorem walk_ok (n : Nat) (hn : n ≤ 1024) (a1 : Option Addr) (len1 cap1 : Nat) (w : World) (w1 : Elems w a1 len1 [.i .i64, .i .i64, .i .u64]) (hT : Tab w) :
    Calls Tryd.prog 5 #[.int .i64 n, .slice a1 len1 cap1] w fun e w' => e = .returned (.bool true) ∧ Fr [] w w' := by
  obtain ⟨hlen, hrec⟩ := w1
  have Hrec := Lib.hid hrec
  have HT := Lib.hid hT
  clear hrec hT
  go_enter Tryd.func5, Tryd.ntmps5
  go_wp2_with fail
  refine (gnew_any n _ hn).mono ?_
  rintro e w2 ⟨gp, p, g, rfl, h2, hgp, hp, hg, hf2⟩
  go_wp2_with fail
  refine (r18new_yes n _ hn).mono ?_
  rintro e w3 ⟨v, rfl, h3, hf3⟩
  obtain ⟨av, cv, rfl, hcv⟩ := own_slice h3
  go_wp2_with fail
  have hs2 := hf2.size
  have hs3 := hf3.size
  have hl2 := h2.lt
  have hA := At.new w3 39 #[.int .u64 0, .slice av n cv]
  have hfa : Fr [] w3 (w3.alloc (.cells #[.int .u64 0, .slice av n cv] 39)) := (by repeat (first | exact Fr.refl _ _ | assumption | refine Fr.trans0 ?_ (by assumption) | refine Fr.drewN ?_ _ | refine Fr.alloc ?_ _ | refine Fr.drew ?_))
  have H2 := Lib.hid ((h2.fr hf3 (by simp) (by simp) (by simp)).fr hfa (by simp) (by simp) (by simp))
  have H3 := Lib.hid (own_fr0 h3 hfa)
  have HF0 := Lib.hid ((hf2.trans0 hf3).trans0 hfa)
  obtain ⟨q6, hq6⟩ : ∃ q, w3.heap.size = q := ⟨_, rfl⟩
  rw [hq6] at hA hs3 ⊢
  have HA0 := Lib.hid hA
  have hqn : q6 ≠ g ∧ q6 ≠ gp ∧ q6 ≠ p := by omega
  have hqw : w.heap.size ≤ q6 := by omega
  clear hA hq6 h2 h3 hf2 hf3 hfa hs2 hs3 hl2
  go_loopw [5, 8] (fun pv i wr => ∃ (k gp p g : Nat) (f : Nat → Bool) (ep : Int) (av : Option Addr) (cv : Nat), k ≤ 50 ∧ i = .int .i64 k ∧ pv = .pointer (some ⟨gp, 0, none⟩) ∧ Gn wr gp p g n f ep ∧ At wr q6 39 #[.int .u64 ep, .slice av n cv] ∧ Bs 0 wr (.slice av n cv) n f ∧ Fr [] w wr ∧ (w.heap.size ≤ gp ∧ w.heap.size ≤ p ∧ w.heap.size ≤ g) ∧ (q6 ≠ g ∧ q6 ≠ gp ∧ q6 ≠ p)) (fun _ i _ => 50 - (intOf i).toNat)
  case atStart => exact ⟨0, gp, p, g, _, 0, av, cv, by omega, rfl, rfl, H2.out, HA0.out, H3.out, HF0.out, ⟨hgp, hp, hg⟩, hqn⟩
  case round =>
    clear H2 H3 HF0 HA0 hqn hgp hp hg
    obtain ⟨k, gp, p, g, f, ep, av, cv, hk, rfl, rfl, hgn, hat, hbs, hf, ⟨hgp, hp, hg⟩, hqn⟩ := hrel
    have HG := Lib.hid hgn
    have HQ := Lib.hid hat
    have HBs := Lib.hid hbs
    have HF := Lib.hid hf
    clear hgn hat hbs
    by_cases hlt : k < len1 ∧ k < 50
    · obtain ⟨hl1, hl2⟩ := hlt
      obtain ⟨b, off, rfl, hb, hcells⟩ := Hrec.out.resolve_left (by omega)
      obtain ⟨cs, hfit, hcs⟩ := hcells k hl1
      obtain ⟨z0, z1, z2, rfl, hw0, hw1, hw2⟩ := fits3 hfit
      have hc0 := hcs 0 (by simp)
      have hc1 := hcs 1 (by simp)
      have hc2 := hcs 2 (by simp)
      simp only [List.length_cons, List.length_nil, List.getElem?_cons_zero, List.getElem?_cons_succ, Nat.zero_add, Nat.reduceAdd, Nat.add_zero] at hc0 hc1 hc2
      have bw0 := bounds_i64 hw0
      have k0 := (hf.cell (a := ⟨b, off + k * 3, none⟩) hb (by simp)).trans hc0
      have k1 : wr.cell? ⟨b, off + k * 3 + 1, none⟩ = _ := (hf.cell (a := ⟨b, off + (k * 3 + 1), none⟩) hb (by simp)).trans hc1
      have k2 : wr.cell? ⟨b, off + k * 3 + 1 + 1, none⟩ = _ := (hf.cell (a := ⟨b, off + (k * 3 + 2), none⟩) hb (by simp)).trans hc2
      have k3 : wr.cell? ⟨b, off + k * 3 + 2, none⟩ = _ := (hf.cell (a := ⟨b, off + (k * 3 + 2), none⟩) hb (by simp)).trans hc2
      clear hcs hcells hw0 hw1 hw2 hf
      go_upto_block 2 with (fail)
      go_cut [5, 10, 11] (fun s5 s10 s11 wx => ∃ (gp p g : Nat) (f : Nat → Bool) (ep : Int) (av : Option Addr) (cv : Nat) (x : Bool), s5 = .pointer (some ⟨gp, 0, none⟩) ∧ s10 = .bool x ∧ s11 = .bool x ∧ Gn wx gp p g n f ep ∧ At wx q6 39 #[.int .u64 ep, .slice av n cv] ∧ Bs 0 wx (.slice av n cv) n f ∧ Fr [] w wx ∧ (w.heap.size ≤ gp ∧ w.heap.size ≤ p ∧ w.heap.size ≤ g) ∧ (q6 ≠ g ∧ q6 ≠ gp ∧ q6 ≠ p))
      case first =>
        obtain ⟨X, hX⟩ : ∃ X, wr.alloc (.cells #[.int .i64 z0, .int .i64 z1, .int .u64 z2] 43) = X := ⟨_, rfl⟩
        have hxa : At X wr.heap.size 43 #[.int .i64 z0, .int .i64 z1, .int .u64 z2] := by rw [← hX]; exact At.new _ _ _
        have hxf : Fr [] wr X := by rw [← hX]; exact (Fr.refl _ _).alloc _
        have hgl := HG.out.lt
        have hql := HQ.out.lt
        have hws := HF.out.size
        have HGX := Lib.hid (HG.out.fr hxf (by simp) (by simp) (by simp))
        have HQX := Lib.hid (HQ.out.fr hxf (by simp))
        have HBX := Lib.hid (own_fr0 HBs.out hxf)
        have HFX := Lib.hid (HF.out.trans0 hxf)
        have x0 := hxa.cell 0
        have x1 := hxa.cell 1
        have x2 := hxa.cell 2
        simp only [List.getElem?_toArray, List.getElem?_cons_zero, List.getElem?_cons_succ] at x0 x1 x2
        obtain ⟨qx, hqx⟩ : ∃ q, wr.heap.size = q := ⟨_, rfl⟩
        have HXA := Lib.hid hxa
        rw [hX, hqx]
        rw [hqx] at x0 x1 x2 HXA hgl hql hws
        have c0 := HQX.out.cell 0
        have c1 := HQX.out.cell 1
        simp only [List.getElem?_toArray, List.getElem?_cons_zero, List.getElem?_cons_succ] at c0 c1
        have HQQ := Lib.hid hqx
        clear hxa hxf hX hqx k0 k1 k2 k3 HG HQ HBs HF
        go_wp2_with fail
        · refine (gmark_all X gp p g n f ep HGX.out z1).mono ?_
          rintro e w4 ⟨rfl, h4, hf4⟩
          have x1 := (HXA.out.fr hf4 (by simp; omega)).cell 1
          simp only [List.getElem?_toArray, List.getElem?_cons_zero, List.getElem?_cons_succ] at x1
          have HG4 := Lib.hid h4
          have HQ4 := Lib.hid (HQX.out.fr hf4 (by simp; omega))
          have HB4 := Lib.hid (own_fr HBX.out hf4 (fun q hq => by simp; exact Bs.ne HBX.out HGX.out.2.1 q hq))
          have F4 := Lib.hid (HFX.out.trans hf4 (by simp; omega))
          clear h4 hf4 c0 c1
          -- behind the mark of g: world w4, facts HG4 (Gn w4 .. (mkF f n z1)), HQ4 (At w4 q6), HB4, F4
          have c0 := HQ4.out.cell 0
          have c1 := HQ4.out.cell 1
          have f0 := HQ4.out.froz 0
          have f1 := HQ4.out.froz 1
          simp only [List.getElem?_toArray, List.getElem?_cons_zero, List.getElem?_cons_succ] at c0 c1
          go_wp2_with fail
          refine (r18mark_all _ 0 ep _ n f HB4.out hn z1).mono ?_
          rintro e w5 ⟨v', rfl, h5, hf5⟩
          obtain ⟨av', cv', rfl, hcv'⟩ := own_slice h5
          have HQ5 := Lib.hid (HQ4.out.fr hf5 (by simp))
          have c0 := HQ5.out.cell 0
          have c1 := HQ5.out.cell 1
          have f0 := HQ5.out.froz 0
          have f1 := HQ5.out.froz 1
          simp only [List.getElem?_toArray, List.getElem?_cons_zero, List.getElem?_cons_succ] at c0 c1
          have HG5 := Lib.hid (HG4.out.fr hf5 (by simp) (by simp) (by simp))
          have F5 := Lib.hid (F4.out.trans0 hf5)
          have H5 := Lib.hid h5
          clear h5 hf5 HG4 HQ4 HB4 F4
          go_wp2_with fail
          have hfs : Fr [q6] w5 ((w5.setCell ⟨q6, 0, none⟩ (.int .u64 ep)).setCell ⟨q6, 1, none⟩ (.slice av' n cv')) := ((Fr.refl _ _).set (.inl (by simp)) _).set (.inl (by simp)) _
          have hqq := HQQ.out
          subst hqq
          go_meet
          exact ⟨gp, p, g, _, ep, av', cv', _, rfl, rfl, rfl, HG5.out.fr hfs (by simp; omega) (by simp; omega) (by simp; omega), (HQ5.out.set 0 _).set 1 _, own_fr H5.out hfs (fun q hq => by simp; exact own_ne H5.out HQ5.out (by decide) q hq), F5.out.trans hfs (by simp; omega), ⟨hgp, hp, hg⟩, hqn⟩
        · refine (gstart_all X gp p g n f ep HGX.out z2).mono ?_
          rintro e w4 ⟨rfl, h4, hf4⟩
          have x2 := (HXA.out.fr hf4 (by simp; omega)).cell 2
          simp only [List.getElem?_toArray, List.getElem?_cons_zero, List.getElem?_cons_succ] at x2
          have HG4 := Lib.hid h4
          have HQ4 := Lib.hid (HQX.out.fr hf4 (by simp; omega))
          have HB4 := Lib.hid (own_fr HBX.out hf4 (fun q hq => by simp; exact ⟨Bs.neG HBX.out HGX.out q hq, Bs.ne HBX.out HGX.out.2.1 q hq⟩))
          have F4 := Lib.hid (HFX.out.trans hf4 (by simp; omega))
          clear h4 hf4 c0 c1
          have c0 := HQ4.out.cell 0
          have c1 := HQ4.out.cell 1
          have f0 := HQ4.out.froz 0
          have f1 := HQ4.out.froz 1
          simp only [List.getElem?_toArray, List.getElem?_cons_zero, List.getElem?_cons_succ] at c0 c1
          go_wp2_with fail
          refine (r18start_all _ ep _ n f HB4.out hn z2).mono ?_
          rintro e w5 ⟨v', rfl, h5, hf5⟩
          obtain ⟨av', cv', rfl, hcv'⟩ := own_slice h5
          have HQ5 := Lib.hid (HQ4.out.fr hf5 (by simp))
          have c0 := HQ5.out.cell 0
          have c1 := HQ5.out.cell 1
          have f0 := HQ5.out.froz 0
          have f1 := HQ5.out.froz 1
          simp only [List.getElem?_toArray, List.getElem?_cons_zero, List.getElem?_cons_succ] at c0 c1
          have HG5 := Lib.hid (HG4.out.fr hf5 (by simp) (by simp) (by simp))
          have F5 := Lib.hid (F4.out.trans0 hf5)
          have H5 := Lib.hid h5
          clear h5 hf5 HG4 HQ4 HB4 F4
          obtain ⟨ep', hep⟩ : ∃ e, stE f n ep z2 = e := ⟨_, rfl⟩
          rw [hep] at HG5 ⊢
          clear hep
          go_wp2_with fail
          have hfs : Fr [q6] w5 ((w5.setCell ⟨q6, 0, none⟩ (.int .u64 ep')).setCell ⟨q6, 1, none⟩ (.slice av' n cv')) := ((Fr.refl _ _).set (.inl (by simp)) _).set (.inl (by simp)) _
          have hqq := HQQ.out
          subst hqq
          go_meet
          exact ⟨gp, p, g, _, ep', av', cv', _, rfl, rfl, rfl, HG5.out.fr hfs (by simp; omega) (by simp; omega) (by simp; omega), (HQ5.out.set 0 _).set 1 _, own_fr H5.out hfs (fun q hq => by simp; exact own_ne H5.out HQ5.out (by decide) q hq), F5.out.trans hfs (by simp; omega), ⟨hgp, hp, hg⟩, hqn⟩
        · have CN := Lib.hid (gnext_any X gp p g n f ep HGX.out (HT.out.fr HFX.out (by simp)))
          have CR := Lib.hid fun W (h : Bs 0 W (.slice av n cv) n f) => r18next_any W 0 ep _ n f h hn
          obtain ⟨P, hP⟩ : ∃ P, nxtP f n = P := ⟨_, rfl⟩
          obtain ⟨B, hB⟩ : ∃ B, nxtB f n = B := ⟨_, rfl⟩
          rw [hP, hB] at CN CR
          have hii : ∀ i : Int, (i != i) = false := fun i => by simp
          have hbb : ∀ i : Bool, (i != i) = false := fun i => by simp
          clear hP hB
          refine (CN.out).mono ?_
          rintro e w4 ⟨rfl, hf4⟩
          have HG4 := Lib.hid (HGX.out.fr hf4 (by simp) (by simp) (by simp))
          have HQ4 := Lib.hid (HQX.out.fr hf4 (by simp))
          have HB4 := Lib.hid (own_fr0 HBX.out hf4)
          have F4 := Lib.hid (HFX.out.trans0 hf4)
          clear hf4 c0 c1 HGX HQX HBX HFX CN
          have c0 := HQ4.out.cell 0
          have c1 := HQ4.out.cell 1
          simp only [List.getElem?_toArray, List.getElem?_cons_zero, List.getElem?_cons_succ] at c0 c1
          go_wp2_with fail
          refine (CR.out _ HB4.out).mono ?_
          rintro e w5 ⟨rfl, hf5⟩
          have HGX := Lib.hid (HG4.out.fr hf5 (by simp) (by simp) (by simp))
          have HQX := Lib.hid (HQ4.out.fr hf5 (by simp))
          have HBX := Lib.hid (own_fr0 HB4.out hf5)
          have HFX := Lib.hid (F4.out.trans0 hf5)
          clear hf5 c0 c1 HG4 HQ4 HB4 F4 CR
          have c0 := HQX.out.cell 0
          have c1 := HQX.out.cell 1
          simp only [List.getElem?_toArray, List.getElem?_cons_zero, List.getElem?_cons_succ] at c0 c1
          go_wp2_with fail
          refine (gmark_all _ gp p g n f ep HGX.out P).mono ?_
          rintro e w6 ⟨rfl, h4, hf4⟩
          have HG4 := Lib.hid h4
          have HQ4 := Lib.hid (HQX.out.fr hf4 (by simp; omega))
          have HB4 := Lib.hid (own_fr HBX.out hf4 (fun q hq => by simp; exact Bs.ne HBX.out HGX.out.2.1 q hq))
          have F4 := Lib.hid (HFX.out.trans hf4 (by simp; omega))
          clear h4 hf4 c0 c1
          obtain ⟨wq, rfl⟩ : ∃ W, W = w5 := ⟨_, rfl⟩
          -- behind the mark of g: world w4, facts HG4 (Gn w4 .. (mkF f n P)), HQ4 (At w4 q6), HB4, F4
          have c0 := HQ4.out.cell 0
          have c1 := HQ4.out.cell 1
          have f0 := HQ4.out.froz 0
          have f1 := HQ4.out.froz 1
          simp only [List.getElem?_toArray, List.getElem?_cons_zero, List.getElem?_cons_succ] at c0 c1
          go_wp2_with fail
          refine (r18mark_all _ 0 ep _ n f HB4.out hn P).mono ?_
          rintro e w5 ⟨v', rfl, h5, hf5⟩
          obtain ⟨av', cv', rfl, hcv'⟩ := own_slice h5
          have HQ5 := Lib.hid (HQ4.out.fr hf5 (by simp))
          have c0 := HQ5.out.cell 0
          have c1 := HQ5.out.cell 1
          have f0 := HQ5.out.froz 0
          have f1 := HQ5.out.froz 1
          simp only [List.getElem?_toArray, List.getElem?_cons_zero, List.getElem?_cons_succ] at c0 c1
          have HG5 := Lib.hid (HG4.out.fr hf5 (by simp) (by simp) (by simp))
          have F5 := Lib.hid (F4.out.trans0 hf5)
          have H5 := Lib.hid h5
          clear h5 hf5 HG4 HQ4 HB4 F4
          go_wp2_with fail
          have hfs : Fr [q6] w5 ((w5.setCell ⟨q6, 0, none⟩ (.int .u64 ep)).setCell ⟨q6, 1, none⟩ (.slice av' n cv')) := ((Fr.refl _ _).set (.inl (by simp)) _).set (.inl (by simp)) _
          have hqq := HQQ.out
          subst hqq
          go_meet
          exact ⟨gp, p, g, _, ep, av', cv', _, rfl, rfl, rfl, HG5.out.fr hfs (by simp; omega) (by simp; omega) (by simp; omega), (HQ5.out.set 0 _).set 1 _, own_fr H5.out hfs (fun q hq => by simp; exact own_ne H5.out HQ5.out (by decide) q hq), F5.out.trans hfs (by simp; omega), ⟨hgp, hp, hg⟩, hqn⟩
        · refine (gcopy_any X gp p g n f ep HGX.out).mono ?_
          rintro e w4 ⟨gp', p', g', rfl, h4, hgp', hp', hg', hf4⟩
          have hsX := HQX.out.lt
          have hlX := HGX.out.lt
          have hlx := HXA.out.lt
          have HG4 := Lib.hid (HGX.out.fr hf4 (by simp) (by simp) (by simp))
          have HN4 := Lib.hid h4
          have HQ4 := Lib.hid (HQX.out.fr hf4 (by simp))
          have HB4 := Lib.hid (own_fr0 HBX.out hf4)
          have F4 := Lib.hid (HFX.out.trans0 hf4)
          have hbl : Hid (∀ q, (Value.slice av n cv).ownBlock = some q → q ≠ g) := Lib.hid (Bs.ne HBX.out HGX.out.2.1)
          have hsz := HFX.out.size
          clear h4 hf4 c0 c1 HGX HQX HBX HFX
          go_wp2_with fail
          obtain ⟨wo, rfl⟩ : ∃ wo : World, wo = w4 := ⟨_, rfl⟩
          go_loopw [17] (fun i wr => ∃ (t : Nat) (f'' : Nat → Bool), t ≤ n ∧ i = .int .i64 t ∧ Gn wr gp p g n f'' ep ∧ Fr [g] wo wr) (fun i _ => n - (intOf i).toNat)
          case atStart => exact ⟨0, _, by omega, rfl, HG4.out, Fr.refl _ _⟩
          case round =>
            clear HG4
            obtain ⟨t, f'', ht, rfl, hG, hfi⟩ := hrel
            have HGI := Lib.hid hG
            have HQI := Lib.hid (HQ4.out.fr hfi (by simp; omega))
            have HFI := Lib.hid hfi
            have c1 := HQI.out.cell 1
            simp only [List.getElem?_toArray, List.getElem?_cons_zero, List.getElem?_cons_succ] at c1
            clear hG hfi
            by_cases htn : t < n
            · go_wp2_with fail
              refine (gmark_ever _ gp p g n f'' ep HGI.out t).mono ?_
              rintro e w6 ⟨b6, f6, rfl, h6, hf6⟩
              have H6 := Lib.hid h6
              have HF6 := Lib.hid hf6
              clear h6 hf6
              go_wp2
              go_roundw
              case rel => exact ⟨t + 1, f6, by omega, by go_num, H6.out, HFI.out.trans HF6.out (by simp)⟩
              case measure => simp [intOf]; omega
            · obtain rfl : t = n := by omega
              go_wp2_with fail
              have hqq := HQQ.out
              subst hqq
              go_meet
              exact ⟨gp', p', g', f, ep, av, cv, false, rfl, rfl, rfl, HN4.out.fr HFI.out (by simp; omega) (by simp; omega) (by simp; omega), HQI.out, own_fr HB4.out HFI.out (fun q hq => by simp; exact hbl.out q hq), F4.out.trans HFI.out (by simp; omega), ⟨by omega, by omega, by omega⟩, ⟨by omega, by omega, by omega⟩⟩
      case rest =>
        obtain ⟨gp', p', g', f', ep', av', cv', x, rfl, rfl, rfl, hGX, hAX, hBX, hFX, ⟨hgp', hp', hg'⟩, hqn'⟩ := hcut
        clear HG HQ HBs k0 k1 k2 k3 HF
        rename World => Y
        have HG := Lib.hid hGX
        have HA := Lib.hid hAX
        have HB := Lib.hid hBX
        have HF := Lib.hid hFX
        clear hGX hAX hBX hFX
        have c0 := HA.out.cell 0
        have c1 := HA.out.cell 1
        simp only [List.getElem?_toArray, List.getElem?_cons_zero, List.getElem?_cons_succ] at c0 c1
        have hii : ∀ i : Int, (i != i) = false := fun i => by simp
        have hbb : ∀ i : Bool, (i != i) = false := fun i => by simp
        try go_wp2
        go_region_held3 (fun w' => w'.cell? ⟨q6, 0, none⟩ = some (.int .u64 ep') ∧ w'.cell? ⟨q6, 1, none⟩ = some (.slice av' n cv')) (first | exact ⟨(HA.out.fr (S := []) (by repeat (first | exact Fr.refl _ _ | assumption | refine Fr.trans0 ?_ (by assumption) | refine Fr.drewN ?_ _ | refine Fr.alloc ?_ _ | refine Fr.drew ?_)) (by simp)).cell 0, (HA.out.fr (S := []) (by repeat (first | exact Fr.refl _ _ | assumption | refine Fr.trans0 ?_ (by assumption) | refine Fr.drewN ?_ _ | refine Fr.alloc ?_ _ | refine Fr.drew ?_)) (by simp)).cell 1⟩ | go_keep) (first | (go_at_call 10; refine Calls.mono (gleft_any _ gp' p' g' n f' ep' (HG.out.fr (S := []) (by repeat (first | exact Fr.refl _ _ | assumption | refine Fr.trans0 ?_ (by assumption) | refine Fr.drewN ?_ _ | refine Fr.alloc ?_ _ | refine Fr.drew ?_)) (by simp) (by simp) (by simp))) ?_; rintro e w' ⟨rfl, rfl⟩) | (go_at_call 19; refine Calls.mono (r18left_any _ 0 ep' _ n f' (own_fr0 HB.out (by repeat (first | exact Fr.refl _ _ | assumption | refine Fr.trans0 ?_ (by assumption) | refine Fr.drewN ?_ _ | refine Fr.alloc ?_ _ | refine Fr.drew ?_))) hn) ?_; rintro e w' ⟨rfl, hfc⟩))
        all_goals
          go_wp2
          go_roundw
          case rel => exact ⟨k + 1, gp', p', g', f', ep', av', cv', by omega, by go_num, rfl, HG.out.fr (S := []) (by repeat (first | exact Fr.refl _ _ | assumption | refine Fr.trans0 ?_ (by assumption) | refine Fr.drewN ?_ _ | refine Fr.alloc ?_ _ | refine Fr.drew ?_)) (by simp) (by simp) (by simp), HA.out.fr (S := []) (by repeat (first | exact Fr.refl _ _ | assumption | refine Fr.trans0 ?_ (by assumption) | refine Fr.drewN ?_ _ | refine Fr.alloc ?_ _ | refine Fr.drew ?_)) (by simp), own_fr0 HB.out (by repeat (first | exact Fr.refl _ _ | assumption | refine Fr.trans0 ?_ (by assumption) | refine Fr.drewN ?_ _ | refine Fr.alloc ?_ _ | refine Fr.drew ?_)), HF.out.trans0 (by repeat (first | exact Fr.refl _ _ | assumption | refine Fr.trans0 ?_ (by assumption) | refine Fr.drewN ?_ _ | refine Fr.alloc ?_ _ | refine Fr.drew ?_)), ⟨hgp', hp', hg'⟩, hqn'⟩
          case measure => simp [intOf]; omega
    · have h5 : ¬ (k < len1 ∧ k < 50) := hlt
      obtain ⟨wo, rfl⟩ : ∃ wo : World, wo = wr := ⟨_, rfl⟩
      clear hf
      by_cases h1 : k < len1
      all_goals
        go_wp2
        go_loopw [18] (fun i wr => ∃ I : Int, -1 ≤ I ∧ I ≤ n + 1 ∧ i = .int .i64 I ∧ Fr [] wo wr) (fun i _ => (n + 1 - intOf i).toNat)
        case atStart => exact ⟨-1, by omega, by omega, rfl, Fr.refl _ _⟩
        case round =>
          obtain ⟨I, hI1, hI2, rfl, hf⟩ := hrel
          have HFI := Lib.hid hf
          have HX := Lib.hid (HQ.out.fr hf (by simp))
          have c0 := HX.out.cell 0
          have c1 := HX.out.cell 1
          simp only [List.getElem?_toArray, List.getElem?_cons_zero, List.getElem?_cons_succ] at c0 c1
          have HG6 := Lib.hid (HG.out.fr hf (by simp) (by simp) (by simp))
          have HB6 := Lib.hid (own_fr0 HBs.out hf)
          clear hf
          by_cases hI : I ≤ n
          · have hbb : ∀ i : Bool, (i != i) = false := fun i => by simp
            have O := Lib.hid fun W (hW : Gn W gp p g n f ep) => gold_any W gp p g n f ep hW I
            have R := Lib.hid fun W (hW : Bs 0 W (.slice av n cv) n f) => r18old_any W 0 ep _ n f hW hn I
            obtain ⟨y, hy⟩ : ∃ y, (inR I n && f I.toNat) = y := ⟨_, rfl⟩
            rw [hy] at O R
            clear hy
            go_wp2
            go_region_held3 (fun w' => w'.cell? ⟨q6, 0, none⟩ = some (.int .u64 ep) ∧ w'.cell? ⟨q6, 1, none⟩ = some (.slice av n cv)) (first | exact ⟨(HX.out.fr (S := []) (by repeat (first | exact Fr.refl _ _ | assumption | refine Fr.trans0 ?_ (by assumption) | refine Fr.drewN ?_ _ | refine Fr.alloc ?_ _ | refine Fr.drew ?_)) (by simp)).cell 0, (HX.out.fr (S := []) (by repeat (first | exact Fr.refl _ _ | assumption | refine Fr.trans0 ?_ (by assumption) | refine Fr.drewN ?_ _ | refine Fr.alloc ?_ _ | refine Fr.drew ?_)) (by simp)).cell 1⟩ | go_keep) (first | (go_at_call 13; refine Calls.mono (O.out _ (HG6.out.fr (S := []) (by repeat (first | exact Fr.refl _ _ | assumption | refine Fr.trans0 ?_ (by assumption) | refine Fr.drewN ?_ _ | refine Fr.alloc ?_ _ | refine Fr.drew ?_)) (by simp) (by simp) (by simp))) ?_; rintro e w' ⟨rfl, rfl⟩) | (go_at_call 20; refine Calls.mono (R.out _ (own_fr0 HB6.out (by repeat (first | exact Fr.refl _ _ | assumption | refine Fr.trans0 ?_ (by assumption) | refine Fr.drewN ?_ _ | refine Fr.alloc ?_ _ | refine Fr.drew ?_)))) ?_; rintro e w' ⟨rfl, hfo⟩))
            all_goals
              go_wp2
              go_roundw
              case rel => exact ⟨I + 1, by omega, by omega, by go_num, HFI.out.trans0 (by repeat (first | exact Fr.refl _ _ | assumption | refine Fr.trans0 ?_ (by assumption) | refine Fr.drewN ?_ _ | refine Fr.alloc ?_ _ | refine Fr.drew ?_))⟩
              case measure => simp [intOf]; omega
          · have hI' : (n : Int) < I := by omega
            go_wp2_with fail
            refine (works_any _ (HT.out.fr (HF.out.trans0 HFI.out) (by simp))).mono ?_
            rintro e w5 ⟨rfl, hf5⟩
            go_wp2_with fail
            go_ret
            exact ⟨rfl, (HF.out.trans0 HFI.out).trans0 hf5⟩
theorem walk (a0 : Int) (w0 : (Lit.int .i64 a0).wf = true) (a1 : Option Addr) (len1 cap1 : Nat) (w : World) (w1 : Elems w a1 len1 [.i .i64, .i .i64, .i .u64]) (hT : Tab w) :
    Calls Tryd.prog 5 #[.int .i64 a0, .slice a1 len1 cap1] w fun e w' => e = .returned (.bool true) ∧ Fr [] w w' := by
  by_cases h : a0 < 0 ∨ 1024 < a0
  · exact walk_bad a0 a1 len1 cap1 w1.1 w hT h
  · obtain ⟨n, rfl⟩ := Int.eq_ofNat_of_zero_le (show 0 ≤ a0 by omega)
    exact walk_ok n (by omega) a1 len1 cap1 w w1 hT
theorem laidOut : laidOutB Tryd.prog = true := by kernel_rfl
set_option maxRecDepth 100000 in
theorem lifted (os : Os) (started : os.Started) (H : Type) (enc : TypeId × Value → H) :
    ReturnsInHanded {} Tryd.checked os 5 .any (fun w args => (Rows.barrierPlaysSpec.pre enc Tryd.prog Tryd.f5 [] false w args ∧ laidMetH Tryd.prog laidL w) ∧ sizedMet enc Tryd.prog Tryd.f5 (OpenSpec.ofChange Rows.barrierPlaysSpec) false w args) (Rows.barrierPlaysSpec.post enc Tryd.prog Tryd.f5 false true false false) := by
  refine returnsInHanded_of_change_and (C := Tryd.checked) (X := fun w _ => laidMetH Tryd.prog laidL w) (fun _ _ _ hh h => h.of_heap hh) own started (by kernel_rfl) Tryd.func5
    (ChangeSpec.witness_at (enc := enc) (C := Tryd.checked) (os := os) (X := fun w _ => laidMetH Tryd.prog laidL w) false (laidWorld os) #[.int .i64 0, .slice none 0 0] 8 rfl (by kernel_rfl) (by kernel_rfl) (by kernel_rfl) (by kernel_rfl) (by kernel_rfl) (laidWorld_met os _)) ?_
  intro W base args ds gs before hval0 hW _ _ hL _
  have hT := tab_of_laid hL
  have hval : ∀ (j : Nat) t v, Tryd.f5.params[j]? = some t → args[j]? = some v → Value.okWide Tryd.prog W .any base t v := hval0
  have hW' := hW
  obtain ⟨p, q, hA0, hV, rfl, hfz, hnd⟩ := hW
  have hA : DataW.TrodAll enc Tryd.prog W 0 (fun _ => true) true Tryd.f5.params.toList args.toList ds p := hA0
  rw [Tryd.params5] at hA hval
  obtain ⟨v0, vs0, d0, ds0, p0, q0, hargs, rfl, rfl, h0, r0⟩ := trodAll_cons hA
  obtain ⟨v1, vs1, d1, ds1, p1, q1, rfl, rfl, rfl, h1, r1⟩ := trodAll_cons r0
  obtain ⟨rfl, rfl, rfl⟩ := trodAll_nil r1
  obtain rfl : args = #[v0, v1] := by cases args; simp_all
  obtain ⟨rfl, rfl⟩ := trodVars_none hV
  obtain ⟨a0, rfl, rfl, rfl, w0⟩ := open_int Tryd.underlying3 (hval 0 3 v0 rfl rfl) h0
  obtain ⟨a1, len1, cap1, rfl⟩ := okWide_slice Tryd.underlying36 (hval 1 36 v1 rfl rfl)
  have k1 := h1
  have lt1 : ∀ x ∈ p1, x.block < W.heap.size := by obtain ⟨m, hm⟩ := k1; exact DataW.trod_lt m _ _ _ hm
  have w1 : Elems W a1 len1 [.i .i64, .i .i64, .i .u64] := by
    obtain ⟨fuel, hf⟩ := h1
    exact open_elems (n := 20) Tryd.underlying36 (by kernel_rfl : flat Tryd.prog 20 43 = some [.i .i64, .i .i64, .i .u64]) (by kernel_rfl) (by decide) hf
  clear hA0 hval0
  refine (walk a0 w0 a1 len1 cap1 W w1 hT).mono fun e W' ⟨he, hg⟩ => ?_
  subst he
  have bel := hg.below
  exact ⟨_, rfl, _, _, _, [], _, [], hW', trodAll_mk1 (shut_bool Tryd.underlying4 _), (trodAll_cons_mk (shut_int Tryd.underlying3 w0) (trodAll_cons_mk (Below.trod laidOut (by kernel_rfl) (of_decide_eq_true (by kernel_rfl)) k1 bel lt1) trodAll_mk0)), rfl, bel.frame _, fun h => by cases h⟩
theorem over : Rows.barrierPlaysRow.holds Tryd.pinned (OpenSpec.ofChange Rows.barrierPlaysSpec) :=
  OpenClaim.holds_of_wide 5 Tryd.f5 rfl rfl rfl rfl rfl rfl rfl ⟨rfl, rfl, rfl, rfl, rfl⟩ rfl rfl rfl rfl rfl (by kernel_rfl) Tryd.func5 (by kernel_rfl)
    (of_decide_eq_true (by kernel_rfl)) (by unfold Func.isWrapper; first | (rw [if_pos (by decide +kernel)]; kernel_rfl) | (rw [if_neg (by decide +kernel)]; exact ⟨rfl, rfl⟩))
    (fun os started H enc _ => lifted os started H enc)
set_option maxRecDepth 100000 in
/-- The card, tied. -/
theorem proved : Rows.BarrierPlaysCardSaid :=
  Claim7.holds_tied_plain_at .later [] [.data] true (true, "e7793fe97485d756a82b701d73278ca7f641ab8b64b482d8997c6421f31e14ea") false
    over (fun _ h => by cases h) (by kernel_rfl) (fun _ h => by cases h) barrierPlays_row_tie rfl ⟨rfl, rfl⟩ (by kernel_rfl) rfl
    (fun f fn hf hfn => by
      obtain rfl : f = 5 := Option.some.inj ((show Tryd.prog.funcNamed "fallow/fallowlaw18.BarrierPlays" = some 5 by kernel_rfl).symm.trans hf) |>.symm
      obtain rfl : fn = Tryd.f5 := (Option.some.inj (Tryd.func5.symm.trans hfn)).symm
      exact ⟨by kernel_rfl, fun j t ht => by
        have hm : t ∈ Tryd.f5.params.toList := by simpa using Array.mem_of_getElem? ht
        have hall : (Tryd.f5.params.toList.all fun u => !Tryd.prog.wantsStandIn u) = true := by kernel_rfl
        exact (show Tryd.prog.wantsStandIn t = false by simpa using List.all_eq_true.1 hall t hm)⟩)
    (by kernel_rfl)
end barrierPlays
end Go.Proofs.YtechmgnoaillmaaDoor
