/-
  SlotsPlays: whatever is done, a book answers, and has, what the document says. Condition: the table of math/bits is as the library lays it (the row lists it).
-/



import Derived.Test.YtggcmeoafbmckaaDoorRefAll
import Derived.Test.YtggcmeoafbmckaaDoorArgs
import Derived.Test.YtggcmeoafbmckaaDoorDoor
import Derived.Deep.RegionHeld3
import Derived.Deep.DeepCutAuto
import Derived.Deep.CutBlock
set_option linter.unusedVariables false
namespace Go.Proofs.YtggcmeoafbmckaaDoor
open Go.ChangeShapes Go.WideShapes Go.ChangeAt Go.RowKit
namespace slotsPlays
theorem fits3 {k0 k1 k2 : IntKind} {cs : List Value} (h : Fits [.i k0, .i k1, .i k2] cs) : ∃ z0 z1 z2 : Int, cs = [.int k0 z0, .int k1 z1, .int k2 z2] ∧ (Lit.int k0 z0).wf = true ∧ (Lit.int k1 z1).wf = true ∧ (Lit.int k2 z2).wf = true := by
  obtain ⟨v0, c1, e0, ⟨z0, rfl, w0⟩, h1⟩ := h.cons
  obtain ⟨v1, c2, e1, ⟨z1, rfl, w1⟩, h2⟩ := h1.cons
  obtain ⟨v2, c3, e2, ⟨z2, rfl, w2⟩, h3⟩ := h2.cons
  rw [e2, h3.nil] at e1
  rw [e1] at e0
  exact ⟨z0, z1, z2, e0, w0, w1, w2⟩
set_option maxHeartbeats 1000000 in
set_option maxRecDepth 100000 in
theorem walk_bad (a0 : Int) (a1 : Option Addr) (len1 cap1 : Nat) (w : World) (hT : Tab32 w) (h : a0 < 1 ∨ 16 < a0) :
    Calls Tryd.prog 5 #[.int .i64 a0, .slice a1 len1 cap1] w fun e w' => e = .returned (.bool true) ∧ Fr [] w w' := by
  have C1 := Lib.hid fun w => bnew_bad a0 h w
  have C2 := Lib.hid fun w => r13new_no a0 h w
  have HT := Lib.hid hT
  clear h hT
  go_enter Tryd.func5, Tryd.ntmps5
  go_wp2_with fail
  refine (C1.out _).mono ?_
  rintro e w' ⟨rfl, rfl⟩
  go_wp2_with fail
  refine (C2.out _).mono ?_
  rintro e w2 ⟨rfl, hf2⟩
  go_wp2_with fail
  refine Calls.mono (works_any _ ?_) ?_
  · exact HT.out.fr (S := []) (Fr.alloc hf2 _) (by simp)
  rintro e w5 ⟨rfl, hf5⟩
  have F5 := Lib.hid ((hf2.alloc (.cells #[.int .i64 0, .slice none 0 0] 43)).trans0 hf5)
  clear hf2 hf5
  go_wp2_with fail
  go_ret
  exact ⟨rfl, F5.out⟩
/-- The reference's book abides a write into a block of another type. -/
theorem own_rb {w w' : World} {v : Value} {per q : Nat} {F : Nat → Nat → Bool} {T : Nat → Bool} {P : List (Nat × Value)} {t : TypeId} {cs : Array Value} (h : RB w v per F T P) (hf : Fr [q] w w') (hq : At w q t cs) (h1 : t ≠ 78) (h2 : t ≠ 4) : RB w' v per F T P :=
  ⟨own_fr h.row hf (fun g hg => by simp; exact own_ne h.row hq h1 g hg), h.num, fun x hx => own_fr (h.free x hx) hf (fun g hg => by simp; exact own_ne (h.free x hx) hq h2 g hg)⟩
/-- Both take alike. -/
theorem take_both {per : Nat} {F : Nat → Nat → Bool} {T : Nat → Bool} (hs : Sound per F T) : ∃ (n s : Nat) (b : Bool) (F' : Nat → Nat → Bool),
    (∀ (W : World) (bp : Nat), Book W bp per F T → Tab32 W → bp ≠ 0 → Calls Tryd.prog 9 #[.pointer (some ⟨bp, 0, none⟩)] W fun e w' => e = .returned (.tuple #[.int .i64 n, .int .i64 s, .bool b]) ∧ Book w' bp per F' T ∧ Fr [bp] W w') ∧
    ∀ (W : World) (v : Value) (P : List (Nat × Value)), RB W v per F T P → Calls Tryd.prog 18 #[.agg #[.int .i64 per, v]] W fun r w' => ∃ v' P', r = .returned (.tuple #[.agg #[.int .i64 per, v'], .int .i64 n, .int .i64 s, .bool b]) ∧ RB w' v' per F' T P' ∧ Fr [] W w' := by
  rcases least_free F with h0 | ⟨n, s, h1, h2, h3⟩
  · exact ⟨0, 0, false, F, fun W bp h hT hbt => (btake_no h hT hbt h0).mono fun e w' ⟨he, hf⟩ => ⟨he, h.fr hf (by simp), hf.more (by simp)⟩, fun W v P h => (r13take_none h hs h0).mono fun e w' ⟨he, hf⟩ => ⟨v, P, he, h.fr hf, hf⟩⟩
  · exact ⟨n, s, true, _, fun W bp h hT hbt => btake_is h hT hbt n s h1 h2 h3, fun W v P h => r13take_some h hs n s h1 h2 h3⟩
-- behind a call of the book's that writes: w4, h4 (Book w4 ..), hf4 (Fr [bp] X w4)
-- then the reference's: $1 its contract
theorem rb_new (w : World) (per : Nat) : RB w (.slice none 0 0) per noF noT [] :=
  ⟨World.ownsRow_nil _ _ _ _, by unfold told noT; simp, fun x hx => by cases hx⟩
set_option maxHeartbeats 8000000 in
set_option maxRecDepth 100000 in
theorem walk_ok (per : Nat) (hp1 : 1 ≤ per) (hp2 : per ≤ 16) (a1 : Option Addr) (len1 cap1 : Nat) (w : World) (w1 : Elems w a1 len1 [.i .i64, .i .i64, .i .i64]) (hT : Tab32 w) :
    Calls Tryd.prog 5 #[.int .i64 per, .slice a1 len1 cap1] w fun e w' => e = .returned (.bool true) ∧ Fr [] w w' := by
  obtain ⟨hlen, hrec⟩ := w1
  have Hrec := Lib.hid hrec
  have hTl := hT.lt
  have HT := Lib.hid hT
  clear hrec hT
  go_enter Tryd.func5, Tryd.ntmps5
  go_wp2_with fail
  refine (bnew_any per hp1 hp2 _).mono ?_
  rintro e w2 ⟨bp, rfl, h2, hbp, hf2⟩
  go_wp2_with fail
  refine (r13new_yes per hp1 hp2 _).mono ?_
  rintro e w3 ⟨rfl, hf3⟩
  go_wp2_with fail
  have hl2 := h2.lt
  have hs3 := hf3.size
  have hs2 := hf2.size
  have hA := At.new w3 43 #[.int .i64 per, .slice none 0 0]
  have hfa : Fr [] w3 (w3.alloc (.cells #[.int .i64 per, .slice none 0 0] 43)) := (by repeat (first | exact Fr.refl _ _ | assumption | refine Fr.trans0 ?_ (by assumption) | refine Fr.drewN ?_ _ | refine Fr.alloc ?_ _ | refine Fr.drew ?_))
  have HB0 := Lib.hid ((h2.fr hf3 (by simp)).fr hfa (by simp))
  have HR0 := Lib.hid (rb_new (w3.alloc (.cells #[.int .i64 per, .slice none 0 0] 43)) per)
  have HF0 := Lib.hid ((hf2.trans0 hf3).trans0 hfa)
  obtain ⟨q6, hq6⟩ : ∃ q, w3.heap.size = q := ⟨_, rfl⟩
  rw [hq6] at hA hs3 ⊢
  have HA0 := Lib.hid hA
  have hqn : q6 ≠ bp := by omega
  have hqw : w.heap.size ≤ q6 := by omega
  have hbt : bp ≠ 0 := by omega
  clear hA hq6 h2 hf2 hf3 hfa hs2 hs3 hl2
  go_loopw [8] (fun i wr => ∃ (k : Nat) (F : Nat → Nat → Bool) (T : Nat → Bool) (P : List (Nat × Value)) (av : Option Addr) (n cv : Nat), k ≤ 60 ∧ i = .int .i64 k ∧ Book wr bp per F T ∧ At wr q6 43 #[.int .i64 per, .slice av n cv] ∧ RB wr (.slice av n cv) per F T P ∧ Fr [] w wr) (fun i _ => 60 - (intOf i).toNat)
  case atStart => exact ⟨0, _, _, _, none, 0, 0, by omega, rfl, HB0.out, HA0.out, HR0.out, HF0.out⟩
  case round =>
    clear HB0 HR0 HF0 HA0
    obtain ⟨k, F, T, P, av, n, cv, hk, rfl, hbk, hat, hrb, hf⟩ := hrel
    have HB := Lib.hid hbk
    have HQ := Lib.hid hat
    have HR := Lib.hid hrb
    have HF := Lib.hid hf
    clear hbk hat hrb
    by_cases hlt : k < len1 ∧ k < 60
    · obtain ⟨hl1, hl2⟩ := hlt
      obtain ⟨b, off, rfl, hb, hcells⟩ := Hrec.out.resolve_left (by omega)
      obtain ⟨cs, hfit, hcs⟩ := hcells k hl1
      obtain ⟨z0, z1, z2, rfl, hw0, hw1, hw2⟩ := fits3 hfit
      have hc0 := hcs 0 (by simp)
      have hc1 := hcs 1 (by simp)
      have hc2 := hcs 2 (by simp)
      simp only [List.length_cons, List.length_nil, List.getElem?_cons_zero, List.getElem?_cons_succ, Nat.zero_add, Nat.reduceAdd, Nat.add_zero] at hc0 hc1 hc2
      have k0 := (hf.cell (a := ⟨b, off + k * 3, none⟩) hb (by simp)).trans hc0
      have k1 : wr.cell? ⟨b, off + k * 3 + 1, none⟩ = _ := (hf.cell (a := ⟨b, off + (k * 3 + 1), none⟩) hb (by simp)).trans hc1
      have k2 : wr.cell? ⟨b, off + k * 3 + 1 + 1, none⟩ = _ := (hf.cell (a := ⟨b, off + (k * 3 + 2), none⟩) hb (by simp)).trans hc2
      have k3 : wr.cell? ⟨b, off + k * 3 + 2, none⟩ = _ := (hf.cell (a := ⟨b, off + (k * 3 + 2), none⟩) hb (by simp)).trans hc2
      clear hcs hcells hw0 hw1 hw2 hf
      go_upto_block 2 with (fail)
      go_cut [10, 11] (fun s10 s11 wx => ∃ (F : Nat → Nat → Bool) (T : Nat → Bool) (P : List (Nat × Value)) (av : Option Addr) (n cv : Nat) (x : Bool), s10 = .bool x ∧ s11 = .bool x ∧ Book wx bp per F T ∧ At wx q6 43 #[.int .i64 per, .slice av n cv] ∧ RB wx (.slice av n cv) per F T P ∧ At wx wr.heap.size 47 #[.int .i64 z0, .int .i64 z1, .int .i64 z2] ∧ Fr [] w wx)
      case first =>
        obtain ⟨X, hX⟩ : ∃ X, wr.alloc (.cells #[.int .i64 z0, .int .i64 z1, .int .i64 z2] 47) = X := ⟨_, rfl⟩
        have hxa : At X wr.heap.size 47 #[.int .i64 z0, .int .i64 z1, .int .i64 z2] := by rw [← hX]; exact At.new _ _ _
        have hxf : Fr [] wr X := by rw [← hX]; exact (Fr.refl _ _).alloc _
        have hbl := HB.out.lt
        have hql := HQ.out.lt
        have hws := HF.out.size
        have HS := Lib.hid HB.out.2
        have HBX := Lib.hid (HB.out.fr hxf (by simp))
        have HQX := Lib.hid (HQ.out.fr hxf (by simp))
        have HRX := Lib.hid (HR.out.fr hxf)
        have HFX := Lib.hid (HF.out.trans0 hxf)
        have x0 := hxa.cell 0
        have x1 := hxa.cell 1
        have x2 := hxa.cell 2
        simp only [List.getElem?_toArray, List.getElem?_cons_zero, List.getElem?_cons_succ] at x0 x1 x2
        obtain ⟨qx, hqx⟩ : ∃ q, wr.heap.size = q := ⟨_, rfl⟩
        have HXA := Lib.hid hxa
        rw [hX, hqx]
        rw [hqx] at x0 x1 x2 HXA hbl hql hws
        have c0 := HQX.out.cell 0
        have c1 := HQX.out.cell 1
        simp only [List.getElem?_toArray, List.getElem?_cons_zero, List.getElem?_cons_succ] at c0 c1
        have HQQ := Lib.hid hqx
        clear hxa hxf hX hqx k0 k1 k2 k3 HB HQ HR HF
        go_wp2_with fail
        · refine (badd_all HBX.out z1).mono ?_
          rintro e w4 ⟨rfl, h4, hf4⟩
          have HB4 := Lib.hid h4
          have HQ4 := Lib.hid (HQX.out.fr hf4 (by simp; omega))
          have HX4 := Lib.hid (HXA.out.fr hf4 (by simp; omega))
          have HR4 := Lib.hid (own_rb HRX.out hf4 HBX.out.1 (by decide) (by decide))
          have F4 := Lib.hid (HFX.out.trans hf4 (by simp; omega))
          clear h4 hf4 c0 c1 x0 x1 x2 HXA HBX HQX HRX HFX
          have c0 := HQ4.out.cell 0
          have c1 := HQ4.out.cell 1
          have f0 := HQ4.out.froz 0
          have f1 := HQ4.out.froz 1
          have x1 := HX4.out.cell 1
          have x2 := HX4.out.cell 2
          simp only [List.getElem?_toArray, List.getElem?_cons_zero, List.getElem?_cons_succ] at c0 c1 x1 x2
          go_wp2_with fail
          refine (r13add_all HR4.out HS.out z1).mono ?_
          rintro e w5 ⟨v', P', rfl, h5, hf5⟩
          obtain ⟨av', cv', rfl, hcv'⟩ := own_slice h5.row
          have HQ5 := Lib.hid (HQ4.out.fr hf5 (by simp))
          have HX5 := Lib.hid (HX4.out.fr hf5 (by simp))
          have HB5 := Lib.hid (HB4.out.fr hf5 (by simp))
          have F5 := Lib.hid (F4.out.trans0 hf5)
          have H5 := Lib.hid h5
          clear h5 hf5 HB4 HQ4 HR4 F4 HX4 c0 c1 f0 f1 x1 x2
          have c0 := HQ5.out.cell 0
          have c1 := HQ5.out.cell 1
          have f0 := HQ5.out.froz 0
          have f1 := HQ5.out.froz 1
          have x1 := HX5.out.cell 1
          have x2 := HX5.out.cell 2
          simp only [List.getElem?_toArray, List.getElem?_cons_zero, List.getElem?_cons_succ] at c0 c1 x1 x2
          obtain ⟨L', hL'⟩ : ∃ n, P'.length = n := ⟨_, rfl⟩
          rw [hL'] at H5
          (try rw [hL'])
          clear hL'
          go_wp2_with fail
          have hfs : Fr [q6] w5 ((w5.setCell ⟨q6, 0, none⟩ (.int .i64 per)).setCell ⟨q6, 1, none⟩ (.slice av' L' cv')) := ((Fr.refl _ _).set (.inl (by simp)) _).set (.inl (by simp)) _
          have hqq := HQQ.out
          subst hqq
          go_meet
          exact ⟨_, _, P', av', L', cv', _, rfl, rfl, HB5.out.fr hfs (by simp; omega), (HQ5.out.set 0 _).set 1 _, own_rb H5.out hfs HQ5.out (by decide) (by decide), HX5.out.fr hfs (by simp; omega), F5.out.trans hfs (by simp; omega)⟩
        · obtain ⟨n', s', b', F', hp', hr'⟩ := take_both HS.out
          have CR := Lib.hid hr'
          have hii : ∀ i : Int, (i != i) = false := fun i => by simp
          have hbb : ∀ i : Bool, (i != i) = false := fun i => by simp
          refine (hp' X bp HBX.out (HT.out.fr HFX.out (by simp)) hbt).mono ?_
          clear hp' hr'
          rintro e w4 ⟨rfl, h4, hf4⟩
          have HB4 := Lib.hid h4
          have HQ4 := Lib.hid (HQX.out.fr hf4 (by simp; omega))
          have HX4 := Lib.hid (HXA.out.fr hf4 (by simp; omega))
          have HR4 := Lib.hid (own_rb HRX.out hf4 HBX.out.1 (by decide) (by decide))
          have F4 := Lib.hid (HFX.out.trans hf4 (by simp; omega))
          clear h4 hf4 c0 c1 x0 x1 x2 HXA HBX HQX HRX HFX
          have c0 := HQ4.out.cell 0
          have c1 := HQ4.out.cell 1
          have f0 := HQ4.out.froz 0
          have f1 := HQ4.out.froz 1
          have x1 := HX4.out.cell 1
          have x2 := HX4.out.cell 2
          simp only [List.getElem?_toArray, List.getElem?_cons_zero, List.getElem?_cons_succ] at c0 c1 x1 x2
          go_wp2_with fail
          refine (CR.out _ _ _ HR4.out).mono ?_
          rintro e w5 ⟨v', P', rfl, h5, hf5⟩
          obtain ⟨av', cv', rfl, hcv'⟩ := own_slice h5.row
          have HQ5 := Lib.hid (HQ4.out.fr hf5 (by simp))
          have HX5 := Lib.hid (HX4.out.fr hf5 (by simp))
          have HB5 := Lib.hid (HB4.out.fr hf5 (by simp))
          have F5 := Lib.hid (F4.out.trans0 hf5)
          have H5 := Lib.hid h5
          clear h5 hf5 HB4 HQ4 HR4 F4 HX4 c0 c1 f0 f1 x1 x2
          have c0 := HQ5.out.cell 0
          have c1 := HQ5.out.cell 1
          have f0 := HQ5.out.froz 0
          have f1 := HQ5.out.froz 1
          have x1 := HX5.out.cell 1
          have x2 := HX5.out.cell 2
          simp only [List.getElem?_toArray, List.getElem?_cons_zero, List.getElem?_cons_succ] at c0 c1 x1 x2
          obtain ⟨L', hL'⟩ : ∃ n, P'.length = n := ⟨_, rfl⟩
          rw [hL'] at H5
          (try rw [hL'])
          clear hL'
          have hql5 := HQ5.out.lt
          have HQ6 := Lib.hid (HQ5.out.old (.cells #[.int .i64 per, .slice av' L' cv'] 43))
          have c0 := HQ6.out.cell 0
          have c1 := HQ6.out.cell 1
          have f0 := HQ6.out.froz 0
          have f1 := HQ6.out.froz 1
          simp only [List.getElem?_toArray, List.getElem?_cons_zero, List.getElem?_cons_succ] at c0 c1
          go_wp2_with fail
          have hfs : Fr [q6] w5 ((w5.setCell ⟨q6, 0, none⟩ (.int .i64 per)).setCell ⟨q6, 1, none⟩ (.slice av' L' cv')) := ((Fr.refl _ _).set (.inl (by simp)) _).set (.inl (by simp)) _
          have hqq := HQQ.out
          subst hqq
          go_meet
          exact ⟨_, _, P', av', L', cv', _, rfl, rfl, (HB5.out.fr hfs (by simp; omega)).fr (S := []) (by repeat (first | exact Fr.refl _ _ | assumption | refine Fr.trans0 ?_ (by assumption) | refine Fr.drewN ?_ _ | refine Fr.alloc ?_ _ | refine Fr.drew ?_)) (by simp), ((HQ5.out.set 0 _).set 1 _).old _, (own_rb H5.out hfs HQ5.out (by decide) (by decide)).fr (by repeat (first | exact Fr.refl _ _ | assumption | refine Fr.trans0 ?_ (by assumption) | refine Fr.drewN ?_ _ | refine Fr.alloc ?_ _ | refine Fr.drew ?_)), (HX5.out.fr hfs (by simp; omega)).old _, (F5.out.trans hfs (by simp; omega)).alloc _⟩
        · refine (bput_all HBX.out z1 z2).mono ?_
          rintro e w4 ⟨rfl, h4, hf4⟩
          have HB4 := Lib.hid h4
          have HQ4 := Lib.hid (HQX.out.fr hf4 (by simp; omega))
          have HX4 := Lib.hid (HXA.out.fr hf4 (by simp; omega))
          have HR4 := Lib.hid (own_rb HRX.out hf4 HBX.out.1 (by decide) (by decide))
          have F4 := Lib.hid (HFX.out.trans hf4 (by simp; omega))
          clear h4 hf4 c0 c1 x0 x1 x2 HXA HBX HQX HRX HFX
          have c0 := HQ4.out.cell 0
          have c1 := HQ4.out.cell 1
          have f0 := HQ4.out.froz 0
          have f1 := HQ4.out.froz 1
          have x1 := HX4.out.cell 1
          have x2 := HX4.out.cell 2
          simp only [List.getElem?_toArray, List.getElem?_cons_zero, List.getElem?_cons_succ] at c0 c1 x1 x2
          go_wp2_with fail
          refine (r13put_all HR4.out HS.out z1 z2).mono ?_
          rintro e w5 ⟨v', P', rfl, h5, hf5⟩
          obtain ⟨av', cv', rfl, hcv'⟩ := own_slice h5.row
          have HQ5 := Lib.hid (HQ4.out.fr hf5 (by simp))
          have HX5 := Lib.hid (HX4.out.fr hf5 (by simp))
          have HB5 := Lib.hid (HB4.out.fr hf5 (by simp))
          have F5 := Lib.hid (F4.out.trans0 hf5)
          have H5 := Lib.hid h5
          clear h5 hf5 HB4 HQ4 HR4 F4 HX4 c0 c1 f0 f1 x1 x2
          have c0 := HQ5.out.cell 0
          have c1 := HQ5.out.cell 1
          have f0 := HQ5.out.froz 0
          have f1 := HQ5.out.froz 1
          have x1 := HX5.out.cell 1
          have x2 := HX5.out.cell 2
          simp only [List.getElem?_toArray, List.getElem?_cons_zero, List.getElem?_cons_succ] at c0 c1 x1 x2
          obtain ⟨L', hL'⟩ : ∃ n, P'.length = n := ⟨_, rfl⟩
          rw [hL'] at H5
          (try rw [hL'])
          clear hL'
          go_wp2_with fail
          have hfs : Fr [q6] w5 ((w5.setCell ⟨q6, 0, none⟩ (.int .i64 per)).setCell ⟨q6, 1, none⟩ (.slice av' L' cv')) := ((Fr.refl _ _).set (.inl (by simp)) _).set (.inl (by simp)) _
          have hqq := HQQ.out
          subst hqq
          go_meet
          exact ⟨_, _, P', av', L', cv', _, rfl, rfl, HB5.out.fr hfs (by simp; omega), (HQ5.out.set 0 _).set 1 _, own_rb H5.out hfs HQ5.out (by decide) (by decide), HX5.out.fr hfs (by simp; omega), F5.out.trans hfs (by simp; omega)⟩
        · refine (bdrop_all HBX.out z1).mono ?_
          rintro e w4 ⟨rfl, h4, hf4⟩
          have HB4 := Lib.hid h4
          have HQ4 := Lib.hid (HQX.out.fr hf4 (by simp; omega))
          have HX4 := Lib.hid (HXA.out.fr hf4 (by simp; omega))
          have HR4 := Lib.hid (own_rb HRX.out hf4 HBX.out.1 (by decide) (by decide))
          have F4 := Lib.hid (HFX.out.trans hf4 (by simp; omega))
          clear h4 hf4 c0 c1 x0 x1 x2 HXA HBX HQX HRX HFX
          have c0 := HQ4.out.cell 0
          have c1 := HQ4.out.cell 1
          have f0 := HQ4.out.froz 0
          have f1 := HQ4.out.froz 1
          have x1 := HX4.out.cell 1
          have x2 := HX4.out.cell 2
          simp only [List.getElem?_toArray, List.getElem?_cons_zero, List.getElem?_cons_succ] at c0 c1 x1 x2
          go_wp2_with fail
          refine (r13drop_all HR4.out HS.out z1).mono ?_
          rintro e w5 ⟨v', P', rfl, h5, hf5⟩
          obtain ⟨av', cv', rfl, hcv'⟩ := own_slice h5.row
          have HQ5 := Lib.hid (HQ4.out.fr hf5 (by simp))
          have HX5 := Lib.hid (HX4.out.fr hf5 (by simp))
          have HB5 := Lib.hid (HB4.out.fr hf5 (by simp))
          have F5 := Lib.hid (F4.out.trans0 hf5)
          have H5 := Lib.hid h5
          clear h5 hf5 HB4 HQ4 HR4 F4 HX4 c0 c1 f0 f1 x1 x2
          have c0 := HQ5.out.cell 0
          have c1 := HQ5.out.cell 1
          have f0 := HQ5.out.froz 0
          have f1 := HQ5.out.froz 1
          have x1 := HX5.out.cell 1
          have x2 := HX5.out.cell 2
          simp only [List.getElem?_toArray, List.getElem?_cons_zero, List.getElem?_cons_succ] at c0 c1 x1 x2
          obtain ⟨L', hL'⟩ : ∃ n, P'.length = n := ⟨_, rfl⟩
          rw [hL'] at H5
          (try rw [hL'])
          clear hL'
          go_wp2_with fail
          have hfs : Fr [q6] w5 ((w5.setCell ⟨q6, 0, none⟩ (.int .i64 per)).setCell ⟨q6, 1, none⟩ (.slice av' L' cv')) := ((Fr.refl _ _).set (.inl (by simp)) _).set (.inl (by simp)) _
          have hqq := HQQ.out
          subst hqq
          go_meet
          exact ⟨_, _, P', av', L', cv', _, rfl, rfl, HB5.out.fr hfs (by simp; omega), (HQ5.out.set 0 _).set 1 _, own_rb H5.out hfs HQ5.out (by decide) (by decide), HX5.out.fr hfs (by simp; omega), F5.out.trans hfs (by simp; omega)⟩
        · refine (bcopy_any HBX.out).mono ?_
          rintro e w4 ⟨bp', rfl, h4, hbp', hf4⟩
          have HB4 := Lib.hid (HBX.out.fr hf4 (by simp))
          have HN4 := Lib.hid h4
          have HQ4 := Lib.hid (HQX.out.fr hf4 (by simp))
          have HX4 := Lib.hid (HXA.out.fr hf4 (by simp))
          have HR4 := Lib.hid (HRX.out.fr hf4)
          have F4 := Lib.hid (HFX.out.trans0 hf4)
          have hne : Hid (bp' ≠ q6 ∧ bp' ≠ qx ∧ bp' ≠ bp ∧ bp' ≠ 0 ∧ w.heap.size ≤ bp') := Lib.hid (by have := HQX.out.lt; have := HXA.out.lt; have := HBX.out.lt; have := HFX.out.size; omega)
          clear h4 hf4 c0 c1 x0 x1 x2 HXA HBX HQX HRX HFX
          have x1 := HX4.out.cell 1
          have x2 := HX4.out.cell 2
          simp only [List.getElem?_toArray, List.getElem?_cons_zero, List.getElem?_cons_succ] at x1 x2
          go_wp2_with fail
          clear x1 x2
          refine (badd_all HN4.out z1).mono ?_
          rintro e w5 ⟨rfl, h5, hf5⟩
          have HN5 := Lib.hid h5
          have HB5 := Lib.hid (HB4.out.fr hf5 (by have := hne.out; simp; omega))
          have HQ5 := Lib.hid (HQ4.out.fr hf5 (by have := hne.out; simp; omega))
          have HX5 := Lib.hid (HX4.out.fr hf5 (by have := hne.out; simp; omega))
          have HR5 := Lib.hid (own_rb HR4.out hf5 HN4.out.1 (by decide) (by decide))
          have F5 := Lib.hid (F4.out.trans hf5 (by have := hne.out; simp; omega))
          clear h5 hf5 HB4 HQ4 HX4 HR4 HN4 F4
          have x1 := HX5.out.cell 1
          have x2 := HX5.out.cell 2
          simp only [List.getElem?_toArray, List.getElem?_cons_zero, List.getElem?_cons_succ] at x1 x2
          go_wp2_with fail
          clear x1 x2
          refine (btake_ever HN5.out (HT.out.fr F5.out (by simp)) hne.out.2.2.2.1).mono ?_
          rintro e w6 ⟨_, _, _, _, rfl, h6, hf6⟩
          have HN6 := Lib.hid h6
          have HB6 := Lib.hid (HB5.out.fr hf6 (by have := hne.out; simp; omega))
          have HQ6 := Lib.hid (HQ5.out.fr hf6 (by have := hne.out; simp; omega))
          have HX6 := Lib.hid (HX5.out.fr hf6 (by have := hne.out; simp; omega))
          have HR6 := Lib.hid (own_rb HR5.out hf6 HN5.out.1 (by decide) (by decide))
          have F6 := Lib.hid (F5.out.trans hf6 (by have := hne.out; simp; omega))
          clear h6 hf6 HB5 HQ5 HX5 HR5 HN5 F5
          have x1 := HX6.out.cell 1
          have x2 := HX6.out.cell 2
          simp only [List.getElem?_toArray, List.getElem?_cons_zero, List.getElem?_cons_succ] at x1 x2
          go_wp2_with fail
          clear x1 x2
          refine (bput_all HN6.out z1 z2).mono ?_
          rintro e w7 ⟨rfl, h7, hf7⟩
          have HN7 := Lib.hid h7
          have HB7 := Lib.hid (HB6.out.fr hf7 (by have := hne.out; simp; omega))
          have HQ7 := Lib.hid (HQ6.out.fr hf7 (by have := hne.out; simp; omega))
          have HX7 := Lib.hid (HX6.out.fr hf7 (by have := hne.out; simp; omega))
          have HR7 := Lib.hid (own_rb HR6.out hf7 HN6.out.1 (by decide) (by decide))
          have F7 := Lib.hid (F6.out.trans hf7 (by have := hne.out; simp; omega))
          clear h7 hf7 HB6 HQ6 HX6 HR6 HN6 F6
          go_wp2_with fail
          have hqq := HQQ.out
          subst hqq
          go_meet
          exact ⟨F, T, P, av, n, cv, _, rfl, rfl, HB7.out, HQ7.out, HR7.out, HX7.out, F7.out⟩
      case rest =>
        obtain ⟨F', T', P', av', n', cv', x, rfl, rfl, hBX, hQX, hRX, hXX, hFX⟩ := hcut
        clear HB HQ HR k0 k1 k2 k3 HF
        rename World => Y
        obtain ⟨qx, hqx⟩ : ∃ q, wr.heap.size = q := ⟨_, rfl⟩
        rw [hqx] at hXX
        have HQQ := Lib.hid hqx
        have HS := Lib.hid hBX.2
        have HB := Lib.hid hBX
        have HQ := Lib.hid hQX
        have HR := Lib.hid hRX
        have HX := Lib.hid hXX
        have HF := Lib.hid hFX
        rw [hqx]
        clear hBX hQX hRX hXX hFX hqx
        have c0 := HQ.out.cell 0
        have c1 := HQ.out.cell 1
        have x1 := HX.out.cell 1
        simp only [List.getElem?_toArray, List.getElem?_cons_zero, List.getElem?_cons_succ] at c0 c1 x1
        have hii : ∀ i : Int, (i != i) = false := fun i => by simp
        have hbb : ∀ i : Bool, (i != i) = false := fun i => by simp
        have CF := Lib.hid fun W (h : Book W bp per F' T') => (bfree_any h)
        have CG := Lib.hid fun W (h : RB W (.slice av' n' cv') per F' T' P') => (r13free_all h HS.out)
        have CW := Lib.hid fun W (h : Book W bp per F' T') => (bwhole_all h z1)
        have CV := Lib.hid fun W (h : RB W (.slice av' n' cv') per F' T' P') => (r13whole_all h HS.out z1)
        obtain ⟨tt, htt⟩ : ∃ t, tot F' 1024 = t := ⟨_, rfl⟩
        obtain ⟨ww, hww⟩ : ∃ t, whB per F' T' z1 = t := ⟨_, rfl⟩
        rw [htt] at CF CG
        rw [hww] at CW CV
        clear htt hww
        try go_wp2
        go_region_held3 (fun w' => w'.cell? ⟨q6, 0, none⟩ = some (.int .i64 per) ∧ w'.cell? ⟨q6, 1, none⟩ = some (.slice av' n' cv') ∧ w'.cell? ⟨qx, 1, none⟩ = some (.int .i64 z1)) (first | exact ⟨(HQ.out.fr (S := []) (by repeat (first | exact Fr.refl _ _ | assumption | refine Fr.trans0 ?_ (by assumption) | refine Fr.drewN ?_ _ | refine Fr.alloc ?_ _ | refine Fr.drew ?_)) (by simp)).cell 0, (HQ.out.fr (S := []) (by repeat (first | exact Fr.refl _ _ | assumption | refine Fr.trans0 ?_ (by assumption) | refine Fr.drewN ?_ _ | refine Fr.alloc ?_ _ | refine Fr.drew ?_)) (by simp)).cell 1, (HX.out.fr (S := []) (by repeat (first | exact Fr.refl _ _ | assumption | refine Fr.trans0 ?_ (by assumption) | refine Fr.drewN ?_ _ | refine Fr.alloc ?_ _ | refine Fr.drew ?_)) (by simp)).cell 1⟩ | go_keep) (first | (go_at_call 11; refine Calls.mono (CF.out _ (HB.out.fr (S := []) (by repeat (first | exact Fr.refl _ _ | assumption | refine Fr.trans0 ?_ (by assumption) | refine Fr.drewN ?_ _ | refine Fr.alloc ?_ _ | refine Fr.drew ?_)) (by simp))) ?_; rintro e w' ⟨rfl, rfl⟩) | (go_at_call 22; refine Calls.mono (CG.out _ (HR.out.fr (by repeat (first | exact Fr.refl _ _ | assumption | refine Fr.trans0 ?_ (by assumption) | refine Fr.drewN ?_ _ | refine Fr.alloc ?_ _ | refine Fr.drew ?_)))) ?_; rintro e w' ⟨rfl, hfc⟩) | (go_at_call 14; refine Calls.mono (CW.out _ (HB.out.fr (S := []) (by repeat (first | exact Fr.refl _ _ | assumption | refine Fr.trans0 ?_ (by assumption) | refine Fr.drewN ?_ _ | refine Fr.alloc ?_ _ | refine Fr.drew ?_)) (by simp))) ?_; rintro e w' ⟨rfl, hfd⟩) | (go_at_call 23; refine Calls.mono (CV.out _ (HR.out.fr (by repeat (first | exact Fr.refl _ _ | assumption | refine Fr.trans0 ?_ (by assumption) | refine Fr.drewN ?_ _ | refine Fr.alloc ?_ _ | refine Fr.drew ?_)))) ?_; rintro e w' ⟨rfl, hfe⟩))
        all_goals
          go_wp2_with fail
          have hl0 := HB.out.lt
          refine Calls.mono (bpages_any (HB.out.fr (S := []) (by repeat (first | exact Fr.refl _ _ | assumption | refine Fr.trans0 ?_ (by assumption) | refine Fr.drewN ?_ _ | refine Fr.alloc ?_ _ | refine Fr.drew ?_)) (by simp))) ?_
          rintro e w1 ⟨pv, rfl, hpv, hf1⟩
          have F1 : Fr [] Y w1 := Fr.trans0 (by repeat (first | exact Fr.refl _ _ | assumption | refine Fr.trans0 ?_ (by assumption) | refine Fr.drewN ?_ _ | refine Fr.alloc ?_ _ | refine Fr.drew ?_)) hf1
          have hpv' : w1.ownsRow Y.heap.size 3 1 pv (told T' 1024).length (ivs (told T' 1024)) := own_base hpv (Fr.size (S := []) (by repeat (first | exact Fr.refl _ _ | assumption | refine Fr.trans0 ?_ (by assumption) | refine Fr.drewN ?_ _ | refine Fr.alloc ?_ _ | refine Fr.drew ?_)))
          have HP := Lib.hid hpv'
          have HF1 := Lib.hid F1
          have c0 := (HQ.out.fr (S := []) F1 (by simp)).cell 0
          have c1 := (HQ.out.fr (S := []) F1 (by simp)).cell 1
          simp only [List.getElem?_toArray, List.getElem?_cons_zero, List.getElem?_cons_succ] at c0 c1
          clear hpv hpv' hf1 F1 CF CG CW CV x1
          go_wp2_with fail
          refine Calls.mono (r13num_all (HR.out.fr HF1.out)) ?_
          rintro e w2 ⟨nv, rfl, hnv, hf2⟩
          have HP2 := Lib.hid (own_fr0 HP.out hf2)
          have HN := Lib.hid hnv
          have HF2 := Lib.hid (HF1.out.trans0 hf2)
          clear HP hnv HF1 hf2 c0 c1
          go_wp2_with fail
          refine Calls.mono (r13same_yes HP2.out HN.out (told_len T' 1024)) ?_
          rintro e w3 ⟨rfl, hf3⟩
          obtain ⟨L, hL⟩ : ∃ n, (told T' 1024).length = n := ⟨_, rfl⟩
          have HP3 := Lib.hid (own_fr0 HP2.out hf3)
          have HF3 := Lib.hid (HF2.out.trans0 hf3)
          obtain ⟨xs, hxs⟩ : ∃ xs, ivs (told T' 1024) = xs := ⟨_, rfl⟩
          rw [hL, hxs] at HP3
          clear HP2 HN hf3 hL hxs HF2
          obtain ⟨pa, pc, rfl, hpc⟩ := own_slice HP3.out
          have hLm := own_len HP3.out
          unfold maxLen at hLm
          go_wp2_with fail
          obtain ⟨wo, rfl⟩ : ∃ wo : World, wo = w3 := ⟨_, rfl⟩
          go_loopw [21] (fun i wr => ∃ (t : Nat) (ys : List Value), t ≤ L ∧ i = .int .i64 t ∧ ys.length = L ∧ wr.ownsRow Y.heap.size 3 1 (.slice pa L pc) L ys ∧ Fr [] Y wr) (fun i _ => L - (intOf i).toNat)
          case atStart => exact ⟨0, xs, by omega, rfl, by have := HP3.out.1; omega, HP3.out, HF3.out⟩
          case round =>
            clear HP3 HF3
            obtain ⟨t, ys, ht, rfl, hys, hown, hfi⟩ := hrel
            have HO := Lib.hid hown
            have HFI := Lib.hid hfi
            have HY := Lib.hid hys
            clear hfi hys hown
            by_cases htl : t < L
            · obtain ⟨g, c, hv, _, hbg, hgw, hcell, hfz⟩ := own_open HO.out (by omega)
              have HV := Lib.hid hv
              injection hv with hv1 hv2 hv3
              subst hv1 hv3
              have hc0 : _ = some (ys[t]'(by rw [HY.out]; omega)) := (hcell t htl).trans (List.getElem?_eq_getElem (by rw [HY.out]; omega))
              have hf0 := hfz t
              clear hcell hfz hv2
              go_wp2
              go_roundw
              case rel => exact ⟨t + 1, ys.set t (.int .i64 (-1)), by omega, by go_num, by rw [List.length_set]; exact HY.out, own_set HO.out rfl t _, HFI.out.set (.inr hbg) _⟩
              case measure => simp [intOf]; omega
            · obtain rfl : t = L := by omega
              go_wp2
              go_roundw
              case rel => exact ⟨k + 1, F', T', P', av', n', cv', by omega, by go_num, HB.out.fr HFI.out (by simp), HQ.out.fr HFI.out (by simp), HR.out.fr HFI.out, HF.out.trans0 HFI.out⟩
              case measure => simp [intOf]; omega
    · have h5 : ¬ (k < len1 ∧ k < 60) := hlt
      have HT' := Lib.hid (HT.out.fr HF.out (by simp))
      clear hf
      by_cases h1 : k < len1
      all_goals
        go_wp2_with fail
        refine (works_any _ HT'.out).mono ?_
        rintro e w5 ⟨rfl, hf5⟩
        go_wp2_with fail
        go_ret
        exact ⟨rfl, HF.out.trans0 hf5⟩
theorem walk (a0 : Int) (w0 : (Lit.int .i64 a0).wf = true) (a1 : Option Addr) (len1 cap1 : Nat) (w : World) (w1 : Elems w a1 len1 [.i .i64, .i .i64, .i .i64]) (hT : Tab32 w) :
    Calls Tryd.prog 5 #[.int .i64 a0, .slice a1 len1 cap1] w fun e w' => e = .returned (.bool true) ∧ Fr [] w w' := by
  by_cases h : a0 < 1 ∨ 16 < a0
  · exact walk_bad a0 a1 len1 cap1 w hT h
  · obtain ⟨n, rfl⟩ := Int.eq_ofNat_of_zero_le (show 0 ≤ a0 by omega)
    exact walk_ok n (by omega) (by omega) a1 len1 cap1 w w1 hT
theorem laidOut : laidOutB Tryd.prog = true := by kernel_rfl
set_option maxRecDepth 100000 in
theorem lifted (os : Os) (started : os.Started) (H : Type) (enc : TypeId × Value → H) :
    ReturnsInHanded {} Tryd.checked os 5 .any (fun w args => (Rows.slotsPlaysSpec.pre enc Tryd.prog Tryd.f5 [] false w args ∧ laidMetH Tryd.prog laidL w) ∧ sizedMet enc Tryd.prog Tryd.f5 (OpenSpec.ofChange Rows.slotsPlaysSpec) false w args) (Rows.slotsPlaysSpec.post enc Tryd.prog Tryd.f5 false true false false) := by
  refine returnsInHanded_of_change_and (C := Tryd.checked) (X := fun w _ => laidMetH Tryd.prog laidL w) (fun _ _ _ hh h => h.of_heap hh) own started (by kernel_rfl) Tryd.func5
    (ChangeSpec.witness_at (enc := enc) (C := Tryd.checked) (os := os) (X := fun w _ => laidMetH Tryd.prog laidL w) false (laidWorld os) #[.int .i64 0, .slice none 0 0] 8 rfl (by kernel_rfl) (by kernel_rfl) (by kernel_rfl) (by kernel_rfl) (by kernel_rfl) (laidWorld_met os _)) ?_
  intro W base args ds gs before hval0 hW _ _ hL _
  have hT := tab_of_laid hL
  have hval : ∀ (j : Nat) t v, Tryd.f5.params[j]? = some t → args[j]? = some v → Value.okWide Tryd.prog W .any base t v := hval0
  have hW' := hW
  obtain ⟨p, q, hA0, hV, rfl, hfz, hnd⟩ := hW
  have hA : DataW.TrodAll enc Tryd.prog W 0 (fun _ => true) true Tryd.f5.params.toList args.toList ds p := hA0
  rw [Tryd.params5] at hA hval
  obtain ⟨v0, vs0, d0, ds0, p0, q0, hargs, rfl, rfl, h0, r0⟩ := trodAll_cons hA
  obtain ⟨v1, vs1, d1, ds1, p1, q1, rfl, rfl, rfl, h1, r1⟩ := trodAll_cons r0
  obtain ⟨rfl, rfl, rfl⟩ := trodAll_nil r1
  obtain rfl : args = #[v0, v1] := by cases args; simp_all
  obtain ⟨rfl, rfl⟩ := trodVars_none hV
  obtain ⟨a0, rfl, rfl, rfl, w0⟩ := open_int Tryd.underlying3 (hval 0 3 v0 rfl rfl) h0
  obtain ⟨a1, len1, cap1, rfl⟩ := okWide_slice Tryd.underlying40 (hval 1 40 v1 rfl rfl)
  have k1 := h1
  have lt1 : ∀ x ∈ p1, x.block < W.heap.size := by obtain ⟨m, hm⟩ := k1; exact DataW.trod_lt m _ _ _ hm
  have w1 : Elems W a1 len1 [.i .i64, .i .i64, .i .i64] := by
    obtain ⟨fuel, hf⟩ := h1
    exact open_elems (n := 20) Tryd.underlying40 (by kernel_rfl : flat Tryd.prog 20 47 = some [.i .i64, .i .i64, .i .i64]) (by kernel_rfl) (by decide) hf
  clear hA0 hval0
  refine (walk a0 w0 a1 len1 cap1 W w1 hT).mono fun e W' ⟨he, hg⟩ => ?_
  subst he
  have bel := hg.below
  exact ⟨_, rfl, _, _, _, [], _, [], hW', trodAll_mk1 (shut_bool Tryd.underlying4 _), (trodAll_cons_mk (shut_int Tryd.underlying3 w0) (trodAll_cons_mk (Below.trod laidOut (by kernel_rfl) (of_decide_eq_true (by kernel_rfl)) k1 bel lt1) trodAll_mk0)), rfl, bel.frame _, fun h => by cases h⟩
theorem over : Rows.slotsPlaysRow.holds Tryd.pinned (OpenSpec.ofChange Rows.slotsPlaysSpec) :=
  OpenClaim.holds_of_wide 5 Tryd.f5 rfl rfl rfl rfl rfl rfl rfl ⟨rfl, rfl, rfl, rfl, rfl⟩ rfl rfl rfl rfl rfl (by kernel_rfl) Tryd.func5 (by kernel_rfl)
    (of_decide_eq_true (by kernel_rfl)) (by unfold Func.isWrapper; first | (rw [if_pos (by decide +kernel)]; kernel_rfl) | (rw [if_neg (by decide +kernel)]; exact ⟨rfl, rfl⟩))
    (fun os started H enc _ => lifted os started H enc)
set_option maxRecDepth 100000 in
/-- The card, tied. -/
theorem proved : Rows.SlotsPlaysCardSaid :=
  Claim7.holds_tied_plain_at .later [] [.data] true (true, "cf9a7591cfa8dce3dcc3bf8a48b51dd81b21bd8b37a86308b919ccced3aca6f0") false
    over (fun _ h => by cases h) (by kernel_rfl) (fun _ h => by cases h) slotsPlays_row_tie rfl ⟨rfl, rfl⟩ (by kernel_rfl) rfl
    (fun f fn hf hfn => by
      obtain rfl : f = 5 := Option.some.inj ((show Tryd.prog.funcNamed "fallow/fallowlaw13.SlotsPlays" = some 5 by kernel_rfl).symm.trans hf) |>.symm
      obtain rfl : fn = Tryd.f5 := (Option.some.inj (Tryd.func5.symm.trans hfn)).symm
      exact ⟨by kernel_rfl, fun j t ht => by
        have hm : t ∈ Tryd.f5.params.toList := by simpa using Array.mem_of_getElem? ht
        have hall : (Tryd.f5.params.toList.all fun u => !Tryd.prog.wantsStandIn u) = true := by kernel_rfl
        exact (show Tryd.prog.wantsStandIn t = false by simpa using List.all_eq_true.1 hall t hm)⟩)
    (by kernel_rfl)
end slotsPlays
end Go.Proofs.YtggcmeoafbmckaaDoor
