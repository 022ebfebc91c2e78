/-
  The event EvDrain, in a history. No condition.
-/


import Derived.Test.YtkbdoiefgmbikaaPast
import Derived.Deep.CutBlock
import Derived.Deep.DeepCutAuto
import Derived.BigRegion
set_option linter.unusedVariables false
namespace Go.Proofs.Ytkbdoiefgmbikaa
open Go.ChangeShapes Go.WideShapes Go.ChangeAt Go.RowKit
theorem good_drain {x : Sx} {h : Int} {i : Nat} (hg : x.Good i) : (drainS x h).2.Good (i + 1) := by
  have := good_see (ha := 0) (hs := 0) (e := ⟨10, h, 0, 0, 0, 0⟩) hg (by simp) (by simp)
  unfold seeS at this
  rw [if_neg (show ¬ (10 : Int) = 2 by decide), if_neg (show ¬ (10 : Int) = 3 by decide), if_neg (show ¬ (10 : Int) = 6 by decide), if_neg (show ¬ (10 : Int) = 4 by decide), if_neg (show ¬ (10 : Int) = 7 by decide), if_neg (show ¬ (10 : Int) = 11 by decide), if_pos rfl] at this
  exact this
set_option maxHeartbeats 4000000 in
set_option maxRecDepth 100000 in
theorem pdrain_any (w : World) (p bg ba ha hs : Nat) (x : Sx) (i : Nat) (h : Past w p bg ba ha hs x i) (hi : i < 1048576) (hh : Int) (hw : (Lit.int .i64 hh).wf = true) :
    Calls Try.prog 50 #[.pointer (some ⟨p, 0, none⟩), .int .i64 hh] w fun r w' => r = .returned (.int .i64 (drainS x hh).1) ∧ Past w' p bg ba ha hs (drainS x hh).2 (i + 1) ∧ Fr [p, ba] w w' := by
  have hlp := h.at_.lt
  have hlg := h.gm.lt
  have hla := h.am.lt
  have HP := Lib.hid h
  have HM := Lib.hid h.more
  have hb1 := h.h1
  have hb2 := h.h2
  have GG := Lib.hid (good_drain (h := hh) h.good)
  have hbp : bg ≠ p := h.gm.ne h.at_
  have hap : ba ≠ p := h.am.ne h.at_
  have hba := h.ne
  have c2 : w.cell? ⟨p, 2, none⟩ = some (.map (some bg)) := h.at_.cell 2
  have c6 : w.cell? ⟨p, 6, none⟩ = some (.map (some ba)) := h.at_.cell 6
  clear h
  obtain ⟨R, hR⟩ : ∃ R, drainS x hh = R := ⟨_, rfl⟩
  rw [hR] at GG ⊢
  unfold drainS at hR
  cases hf : findA x.ks hh with
  | none =>
    rw [hf] at hR
    have hfo : aF x.ks hh = none := by unfold aF; rw [aO_eq, hf]; rfl
    go_enter Try.func50, Try.ntmps50
    go_wp2_with (at_lookup; refine wpList_mlook rfl (.tmp 13) (.tmp 14) 74 true rfl HP.out.am Try.underlying3 95 Try.underlying74 _ (zeroAk _) hh rfl rfl hw (.tuple #[.agg #[.int .i64 0, .int .i64 0], .bool false]) (by rw [hfo]; rfl) ?_)
    go_ret
    rw [← hR]
    exact ⟨rfl, HM.out.fr0 (by repeat (first | exact Fr.refl _ _ | assumption | refine Fr.trans0 ?_ (by assumption) | refine Fr.drewN ?_ _ | refine Fr.alloc ?_ _ | refine Fr.drew ?_)), (by repeat (first | exact Fr.refl _ _ | assumption | refine Fr.trans0 ?_ (by assumption) | refine Fr.drewN ?_ _ | refine Fr.alloc ?_ _ | refine Fr.drew ?_))⟩
  | some k =>
    rw [hf] at hR
    dsimp only at hR
    have HR := Lib.hid hR
    have hfo : aF x.ks hh = some (.agg #[.int .i64 k.t, .int .i64 k.e]) := by unfold aF; rw [aO_eq, hf]; rfl
    have A0 := Lib.hid (At.new w 95 #[.int .i64 k.t, .int .i64 k.e])
    have F0 := Lib.hid (show Fr [] w (w.alloc (.cells #[.int .i64 k.t, .int .i64 k.e] 95)) from (by repeat (first | exact Fr.refl _ _ | assumption | refine Fr.trans0 ?_ (by assumption) | refine Fr.drewN ?_ _ | refine Fr.alloc ?_ _ | refine Fr.drew ?_)))
    have G0 := HP.out.gm.fr0 F0.out
    clear hR
    go_enter Try.func50, Try.ntmps50
    go_wp2_with (first | (at_lookup; refine wpList_mlook rfl (.tmp 13) (.tmp 14) 74 true rfl HP.out.am Try.underlying3 95 Try.underlying74 _ (zeroAk _) hh rfl rfl hw (.tuple #[.agg #[.int .i64 k.t, .int .i64 k.e], .bool true]) (by rw [hfo]; rfl) ?_) | (at_range; refine wpList_mrange rfl (.tmp 23) 73 rfl G0 Try.underlying39 91 Try.underlying73 rfl ?_; intro w5 cnt5 hr5 hf5 hs5))
    go_frame
    obtain ⟨w0, hw0⟩ : ∃ W, w.alloc (.cells #[.int .i64 k.t, .int .i64 k.e] 95) = W := ⟨_, rfl⟩
    have F0 := F0.out
    have A0 := A0.out
    rw [hw0] at hr5 hf5 hs5 F0 A0 G0 ⊢
    have hsz := F0.size
    have hA0l := A0.lt
    have A0 := Lib.hid A0
    have F0 := Lib.hid F0
    obtain ⟨r1, hrr⟩ : ∃ r, w0.heap.size = r := ⟨_, rfl⟩
    rw [hrr] at hr5 hs5 hsz hA0l ⊢
    have R5 := Lib.hid hr5
    have FB := Lib.hid hf5
    clear hr5 hf5 G0 c2 c6 hw0 hfo
    go_loopw [8] (fun _ wr => ∃ left cnt, Mr Try.prog 39 .u64 wr bg r1 i (gF x.gs) left cnt ∧ (∀ g ∈ x.gs, left g.n = false → (g.rests && decide (g.freed < k.t)) = false) ∧ Fr [] w0 wr) (fun _ wr => wr.rangeLeft bg r1)
    case atStart =>
      exact ⟨_, _, R5.out, (fun g hg hl => by (have hl' : (gF x.gs g.n).isSome = false := hl); rw [gF, gO_of HP.out.good.one hg] at hl'; cases hl'), FB.out⟩
    case round =>
      obtain ⟨left, cnt, hr, hck, hfr⟩ := hrel
      have CK := Lib.hid hck
      have FR := Lib.hid hfr
      have HRR := Lib.hid hr
      clear hck hfr
      go_wp2_with (at_next; refine wpList_mnext (fun g : Gr => .agg #[.int .u32 g.a, .int .u32 g.s, .bool g.rests, .bool g.batch, .int .i64 g.freed]) (gO x.gs) rfl (.tmp 24) rfl hr (fun _ => rfl) Try.underlying39 rfl ?_ ?_)
      · intro hl0
        have hany : x.gs.any (fun g => g.rests && decide (g.freed < k.t)) = false := by
          rw [List.any_eq_false]
          intro g hg
          rw [CK.out g hg (hl0 _)]
          simp
        have HA := Lib.hid hany
        have FW := Lib.hid (F0.out.trans0 FR.out)
        have c6 : wr.cell? ⟨p, 6, none⟩ = some (.map (some ba)) := (HP.out.at_.fr FW.out (by simp)).cell 6
        have K1 := HP.out.am.fr0 FW.out
        clear hany
        go_wp2_with (at_delete; refine wpList_mdelete rfl (.tmp 41) (.tmp 42) 74 rfl K1 Try.underlying3 95 Try.underlying74 hh rfl rfl hw ?_; intro w7 hm7 hf7 hs7)
        go_ret
        have hR := HR.out
        rw [HA.out, if_neg (by simp)] at hR
        have GR := GG.out
        rw [← hR] at GR ⊢
        refine ⟨rfl, ⟨(HP.out.at_.fr FW.out (by simp)).fr hf7 (by simp; omega), ((HP.out.gm.fr0 FW.out).fr hf7 (by simp; omega)).mono (by omega), (hm7.congr fun j => ?_).mono (by omega), hba, GR, hb1, hb2⟩, (FW.out.more (T := [p, ba]) (by simp)).trans hf7 (by simp)⟩
        unfold aF
        rw [aO_drop]
        split <;> rfl
      · intro j c w6 cnt6 hwj hlj hgj hr6 hlt6 hf6 hs6 hen
        obtain ⟨hgm, hgn⟩ := gO_mem hgj
        obtain ⟨M, hM⟩ : ∃ M, c.rests = M := ⟨_, rfl⟩
        obtain ⟨M2, hM2⟩ : ∃ M, decide ((c.freed : Int) < (k.t : Int)) = M := ⟨_, rfl⟩
        have hM2N : decide (c.freed < k.t) = M2 := by rw [← hM2, decide_eq_decide]; omega
        rw [hM] at hen ⊢
        have R8 := Lib.hid (hr6.fr0 (w' := w6.alloc (.cells #[.int .u32 c.a, .int .u32 c.s, .bool M, .bool c.batch, .int .i64 c.freed] 91)) (by repeat (first | exact Fr.refl _ _ | assumption | refine Fr.trans0 ?_ (by assumption) | refine Fr.drewN ?_ _ | refine Fr.alloc ?_ _ | refine Fr.drew ?_)))
        have F8 := Lib.hid ((FR.out.trans hf6 (T := [r1]) (by simp; omega)).trans0 (show Fr [] w6 (w6.alloc (.cells #[.int .u32 c.a, .int .u32 c.s, .bool M, .bool c.batch, .int .i64 c.freed] 91)) from (by repeat (first | exact Fr.refl _ _ | assumption | refine Fr.trans0 ?_ (by assumption) | refine Fr.drewN ?_ _ | refine Fr.alloc ?_ _ | refine Fr.drew ?_))))
        have HJ := Lib.hid hgj
        have HMM := Lib.hid (show (c.rests && decide (c.freed < k.t)) = (M && M2) by rw [hM, hM2N])
        have d0 : w6.cell? ⟨w.heap.size, 0, none⟩ = some (.int .i64 k.t) := ((A0.out.fr FR.out (by simp)).fr hf6 (by simp; omega)).cell 0
        have hll : w.heap.size < w6.heap.size := by have := FR.out.size; omega
        clear hM hr6 hf6
        have hll2 : w.heap.size < wr.heap.size := by omega
        cases M <;> cases M2
        · go_wp2_with fail
          go_roundw
          case rel =>
            refine ⟨_, _, R8.out, fun g hg hl => ?_, F8.out⟩
            by_cases hgj : (g.n : Int) = j
            · have h1 := gO_of HP.out.good.one hg
              rw [hgj, HJ.out] at h1
              cases h1
              exact HMM.out
            · exact CK.out g hg (by simpa [hgj] using hl)
          case measure =>
            rw [R8.out.left_eq, HRR.out.left_eq]
            exact hlt6
        · go_wp2_with fail
          go_roundw
          case rel =>
            refine ⟨_, _, R8.out, fun g hg hl => ?_, F8.out⟩
            by_cases hgj : (g.n : Int) = j
            · have h1 := gO_of HP.out.good.one hg
              rw [hgj, HJ.out] at h1
              cases h1
              exact HMM.out
            · exact CK.out g hg (by simpa [hgj] using hl)
          case measure =>
            rw [R8.out.left_eq, HRR.out.left_eq]
            exact hlt6
        · go_wp2_with fail
          go_roundw
          case rel =>
            refine ⟨_, _, R8.out, fun g hg hl => ?_, F8.out⟩
            by_cases hgj : (g.n : Int) = j
            · have h1 := gO_of HP.out.good.one hg
              rw [hgj, HJ.out] at h1
              cases h1
              exact HMM.out
            · exact CK.out g hg (by simpa [hgj] using hl)
          case measure =>
            rw [R8.out.left_eq, HRR.out.left_eq]
            exact hlt6
        · go_wp2_with fail
          go_ret
          have hR := HR.out
          rw [if_pos (List.any_eq_true.2 ⟨c, hgm, HMM.out⟩)] at hR
          rw [← hR]
          exact ⟨rfl, HM.out.fr0 (F0.out.trans0 F8.out), (F0.out.trans0 F8.out).more (by simp)⟩
end Go.Proofs.Ytkbdoiefgmbikaa
