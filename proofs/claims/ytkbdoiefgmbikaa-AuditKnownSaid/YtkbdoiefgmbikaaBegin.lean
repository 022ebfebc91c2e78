/-
  The event EvBegin, in a history. No condition.
-/


import Derived.Test.YtkbdoiefgmbikaaPast
import Derived.Deep.CutBlock
import Derived.Deep.DeepCutAuto
import Derived.BigRegion
set_option linter.unusedVariables false
namespace Go.Proofs.Ytkbdoiefgmbikaa
open Go.ChangeShapes Go.WideShapes Go.ChangeAt Go.RowKit
theorem good_begin {x : Sx} {e : Ev} {i : Nat} (h : x.Good i) (h1 : e.a < 4294967296) (h2 : e.s < 4294967296) : (beginS x e).2.Good (i + 1) := by
  have := good_see (ha := 0) (hs := 0) (e := { e with kind := 6 }) h h1 h2
  unfold seeS at this
  rw [if_neg (show ¬ (6 : Int) = 2 by decide), if_neg (show ¬ (6 : Int) = 3 by decide), if_pos rfl] at this
  exact this
set_option maxHeartbeats 2000000 in
set_option maxRecDepth 100000 in
theorem pbegin_any (w : World) (p bg ba ha hs : Nat) (x : Sx) (i : Nat) (h : Past w p bg ba ha hs x i) (hi : i < 1048576) (e : Ev) (he : e.Ok) :
    Calls Try.prog 48 #[.pointer (some ⟨p, 0, none⟩), .agg e.cells] w fun r w' => r = .returned (.int .i64 (beginS x e).1) ∧ Past w' p bg ba ha hs (beginS x e).2 (i + 1) ∧ Fr [p, bg] w w' := by
  have hlp := h.at_.lt
  have hlg := h.gm.lt
  have hla := h.am.lt
  have hn1 := h.good.sws
  have HP := Lib.hid h
  have HM := Lib.hid h.more
  have hb1 := h.h1
  have hb2 := h.h2
  obtain ⟨he1, he2, he3, he4, _, _⟩ := he
  have hwn : IntKind.u64.wrap ((x.sws : Int) + 1) = (x.sws : Int) + 1 := wu (x.sws + 1) (by omega)
  have GG := Lib.hid (good_begin h.good he1 he2)
  have A3 := Lib.hid (At.new w 41 e.cells)
  have F3 := Lib.hid (show Fr [] w (w.alloc (.cells e.cells 41)) from (by repeat (first | exact Fr.refl _ _ | assumption | refine Fr.trans0 ?_ (by assumption) | refine Fr.drewN ?_ _ | refine Fr.alloc ?_ _ | refine Fr.drew ?_)))
  have AP := Lib.hid (h.at_.fr F3.out (by simp))
  clear h
  obtain ⟨R, hR⟩ : ∃ R, beginS x e = R := ⟨_, rfl⟩
  rw [hR] at GG ⊢
  unfold beginS at hR
  obtain ⟨B1, hB1⟩ : ∃ B, x.sw = B := ⟨_, rfl⟩
  obtain ⟨B2, hB2⟩ : ∃ B, ((e.num : Int) != (x.sws : Int) + 1) = B := ⟨_, rfl⟩
  have hB2N : B2 = true ↔ e.num ≠ x.sws + 1 := by rw [← hB2, bne_iff_ne]; omega
  go_enter Try.func48, Try.ntmps48
  simp only [Ev.cells]
  go_wp2_with fail
  refine wp_region_L (fun W => At W w.heap.size 41 e.cells ∧ At W p 76 (x.cells ha hs bg ba) ∧ Fr [] w W) [] (by kernel_rfl) ⟨A3.out.hp rfl, AP.out.hp rfl, F3.out.drew⟩ (fun hHeld => ?_)
  refine wpAnyL_take (i := 0) (v := ?_) rfl (by kernel_rfl) (fun _ _ _ h => h) (Or.inl ⟨by rfl, ?_⟩) (by assumption) ?_; rotate_left; (focus (intro w hSw; skip; go_simp; (try with_reducible rfl))); (try (refine wpAnyL_norm (by simp only [Act.put, List.setIfInBounds_toArray, List.set_cons_zero, List.set_cons_succ]; rfl) ?_))
  refine wpAnyL_take (i := 1) (v := ?_) rfl (by kernel_rfl) (fun _ _ _ h => h) (Or.inl ⟨by rfl, ?_⟩) (by assumption) ?_; rotate_left; (focus (intro w hSw; skip; go_simp; (try with_reducible rfl))); (try (refine wpAnyL_norm (by simp only [Act.put, List.setIfInBounds_toArray, List.set_cons_zero, List.set_cons_succ]; rfl) ?_))
  refine wpAnyL_take (i := 2) (v := ?_) rfl (by kernel_rfl) (fun _ _ _ h => h) (Or.inl ⟨by rfl, ?_⟩) (by assumption) ?_; rotate_left; (focus (intro w hSw; skip; go_simp; (try with_reducible rfl))); (try (refine wpAnyL_norm (by simp only [Act.put, List.setIfInBounds_toArray, List.set_cons_zero, List.set_cons_succ]; rfl) ?_))
  refine wpAnyL_take (i := 3) (v := ?_) rfl (by kernel_rfl) (fun _ _ _ h => h) (Or.inl ⟨by rfl, ?_⟩) (by assumption) ?_; rotate_left; (focus (intro w hSw; have c : _ = some (Value.bool x.sw) := hSw.2.1.cell 4; go_simp; (try with_reducible rfl))); (try (refine wpAnyL_norm (by simp only [Act.put, List.setIfInBounds_toArray, List.set_cons_zero, List.set_cons_succ]; rfl) ?_))
  cases B1
  · refine wpAnyL_take (i := 4) (v := ?_) rfl (by kernel_rfl) (fun _ _ _ h => h) (Or.inl ⟨by rfl, ?_⟩) (by assumption) ?_; rotate_left; (focus (intro w hSw; skip; go_simp; (try with_reducible rfl))); (try (refine wpAnyL_norm (by simp only [Act.put, List.setIfInBounds_toArray, List.set_cons_zero, List.set_cons_succ]; rfl) ?_))
    refine wpAnyL_take (i := 5) (v := ?_) rfl (by kernel_rfl) (fun _ _ _ h => h) (Or.inl ⟨by rfl, ?_⟩) (by assumption) ?_; rotate_left; (focus (intro w hSw; skip; go_simp; (try with_reducible rfl))); (try (refine wpAnyL_norm (by simp only [Act.put, List.setIfInBounds_toArray, List.set_cons_zero, List.set_cons_succ]; rfl) ?_))
    refine wpAnyL_take (i := 6) (v := ?_) rfl (by kernel_rfl) (fun _ _ _ h => h) (Or.inl ⟨by rfl, ?_⟩) (by assumption) ?_; rotate_left; (focus (intro w hSw; have c : _ = some (Value.int .u64 (e.num : Int)) := hSw.1.cell 3; go_simp; (try with_reducible rfl))); (try (refine wpAnyL_norm (by simp only [Act.put, List.setIfInBounds_toArray, List.set_cons_zero, List.set_cons_succ]; rfl) ?_))
    refine wpAnyL_take (i := 7) (v := ?_) rfl (by kernel_rfl) (fun _ _ _ h => h) (Or.inl ⟨by rfl, ?_⟩) (by assumption) ?_; rotate_left; (focus (intro w hSw; skip; go_simp; (try with_reducible rfl))); (try (refine wpAnyL_norm (by simp only [Act.put, List.setIfInBounds_toArray, List.set_cons_zero, List.set_cons_succ]; rfl) ?_))
    refine wpAnyL_take (i := 8) (v := ?_) rfl (by kernel_rfl) (fun _ _ _ h => h) (Or.inl ⟨by rfl, ?_⟩) (by assumption) ?_; rotate_left; (focus (intro w hSw; skip; go_simp; (try with_reducible rfl))); (try (refine wpAnyL_norm (by simp only [Act.put, List.setIfInBounds_toArray, List.set_cons_zero, List.set_cons_succ]; rfl) ?_))
    refine wpAnyL_take (i := 9) (v := ?_) rfl (by kernel_rfl) (fun _ _ _ h => h) (Or.inl ⟨by rfl, ?_⟩) (by assumption) ?_; rotate_left; (focus (intro w hSw; skip; go_simp; (try with_reducible rfl))); (try (refine wpAnyL_norm (by simp only [Act.put, List.setIfInBounds_toArray, List.set_cons_zero, List.set_cons_succ]; rfl) ?_))
    refine wpAnyL_take (i := 10) (v := ?_) rfl (by kernel_rfl) (fun _ _ _ h => h) (Or.inl ⟨by rfl, ?_⟩) (by assumption) ?_; rotate_left; (focus (intro w hSw; have c : _ = some (Value.int .u64 (x.sws : Int)) := hSw.2.1.cell 5; go_simp; (try with_reducible rfl))); (try (refine wpAnyL_norm (by simp only [Act.put, List.setIfInBounds_toArray, List.set_cons_zero, List.set_cons_succ]; rfl) ?_))
    refine wpAnyL_take (i := 11) (v := ?_) rfl (by kernel_rfl) (fun _ _ _ h => h) (Or.inl ⟨by rfl, ?_⟩) (by assumption) ?_; rotate_left; (focus (intro w hSw; skip; go_simp; (try with_reducible rfl))); (try (refine wpAnyL_norm (by simp only [Act.put, List.setIfInBounds_toArray, List.set_cons_zero, List.set_cons_succ]; rfl) ?_))
    refine wpAnyL_take (i := 12) (v := ?_) rfl (by kernel_rfl) (fun _ _ _ h => h) (Or.inl ⟨by rfl, ?_⟩) (by assumption) ?_; rotate_left; (focus (intro w hSw; skip; go_simp; (try with_reducible rfl))); (try (refine wpAnyL_norm (by simp only [Act.put, List.setIfInBounds_toArray, List.set_cons_zero, List.set_cons_succ]; rfl) ?_))
    refine wpAnyL_take (i := 13) (v := ?_) rfl (by kernel_rfl) (fun _ _ _ h => h) (Or.inl ⟨by rfl, ?_⟩) (by assumption) ?_; rotate_left; (focus (intro w hSw; skip; go_simp; (try with_reducible rfl))); (try (refine wpAnyL_norm (by simp only [Act.put, List.setIfInBounds_toArray, List.set_cons_zero, List.set_cons_succ]; rfl) ?_))
    refine wpAnyL_done (by kernel_rfl) ?_ _
    have HB1 := Lib.hid hB1
    have HB2N := Lib.hid hB2N
    clear hB1 hB2N
    cases B2
    · have hne : e.num = x.sws + 1 := by
        have := HB2N.out
        simp at this
        exact this
      rw [if_neg (by rw [HB1.out]; simp; exact hne)] at hR
      have HR := Lib.hid hR
      have HE := Lib.hid hne
      have G3 := HP.out.gm.fr0 hHeld.2.2
      have K3 := HP.out.am.fr0 hHeld.2.2
      obtain ⟨wc0, hw3⟩ : ∃ W : World, (w.alloc (.cells e.cells 41)).drew = W := ⟨_, rfl⟩
      unfold Ev.cells at hw3 hHeld G3 K3
      rw [hw3] at hHeld G3 K3 ⊢
      have y0 := hHeld.2.1.froz 4
      have y1 := hHeld.2.1.froz 5
      clear hR hne AP A3 F3 hw3
      have c2 : wc0.cell? ⟨p, 2, none⟩ = some (.map (some bg)) := hHeld.2.1.cell 2
      have c4 : wc0.cell? ⟨p, 4, none⟩ = some (.bool x.sw) := hHeld.2.1.cell 4
      have c5 : wc0.cell? ⟨p, 5, none⟩ = some (.int .u64 x.sws) := hHeld.2.1.cell 5
      have A5 : At ((wc0.setCell ⟨p, 4, none⟩ (.bool true)).setCell ⟨p, 5, none⟩ (.int .u64 ((x.sws : Int) + 1))) p 76 (Sx.cells { x with sw := true, sws := x.sws + 1 } ha hs bg ba) := (hHeld.2.1.set 4 (.bool true)).set 5 (.int .u64 ((x.sws : Int) + 1))
      have hbp : bg ≠ p := HP.out.gm.ne HP.out.at_
      have hap : ba ≠ p := HP.out.am.ne HP.out.at_
      have G5 := (G3.set (a := ⟨p, 4, none⟩) hbp (.bool true)).set (a := ⟨p, 5, none⟩) hbp (.int .u64 ((x.sws : Int) + 1))
      have K5 := (K3.set (a := ⟨p, 4, none⟩) hap (.bool true)).set (a := ⟨p, 5, none⟩) hap (.int .u64 ((x.sws : Int) + 1))
      have F5 := ((hHeld.2.2.more (T := [p]) (by simp)).set (a := ⟨p, 4, none⟩) (.inl (by simp)) (.bool true)).set (a := ⟨p, 5, none⟩) (.inl (by simp)) (.int .u64 ((x.sws : Int) + 1))
      have A5 := Lib.hid A5
      have K5 := Lib.hid K5
      have F5 := Lib.hid F5
      clear G3 K3 hHeld
      go_wp2_with (first | (at_range; refine wpList_mrange rfl (.tmp 34) 73 rfl G5 Try.underlying39 91 Try.underlying73 rfl ?_; intro w5 cnt5 hr5 hf5 hs5))
      go_frame
      obtain ⟨w4, hw4⟩ : ∃ W, (wc0.setCell ⟨p, 4, none⟩ (.bool true)).setCell ⟨p, 5, none⟩ (.int .u64 ((x.sws : Int) + 1)) = W := ⟨_, rfl⟩
      have A6 := A5.out.fr hf5 (by simp)
      have K6 := K5.out.fr0 hf5
      have F6 := F5.out.trans0 hf5
      have hsz := F5.out.size
      rw [hw4] at hr5 hs5 hsz ⊢
      obtain ⟨rr, hrr⟩ : ∃ r, w4.heap.size = r := ⟨_, rfl⟩
      rw [hrr] at hr5 hs5 hsz ⊢
      have A6 := Lib.hid A6
      have K6 := Lib.hid K6
      have F6 := Lib.hid F6
      have R5 := Lib.hid hr5
      clear hw4 hr5 hf5 A5 K5 F5 G5 c2 c4 c5 y0 y1
      go_loopw [6] (fun _ wr => ∃ left cnt, Mr Try.prog 39 .u64 wr bg rr i (fun j => (gL x.gs left j).map Gr.v) left cnt ∧ (∀ j, left j = true → (gO x.gs j).isSome = true) ∧ Fr [bg, rr] w5 wr) (fun _ wr => wr.rangeLeft bg rr)
      case atStart =>
        refine ⟨_, _, R5.out.congr (fun j => ?_) (fun _ => rfl), fun j hj => ?_, Fr.refl _ _⟩
        · show gF x.gs j = _
          unfold gF
          rw [gL_all _ _ (fun g hg => by show (gF x.gs g.n).isSome = true; rw [gF, gO_of HP.out.good.one hg]; rfl)]
        · have hj' : (gF x.gs j).isSome = true := hj
          simpa [gF] using hj'
      case round =>
        obtain ⟨left, cnt, hr, hck, hfr⟩ := hrel
        have CK := Lib.hid hck
        have FR := Lib.hid hfr
        have HRR := Lib.hid hr
        clear hck hfr
        go_wp2_with (at_next; refine wpList_mnext (fun g : Gr => .agg #[.int .u32 g.a, .int .u32 g.s, .bool g.rests, .bool g.batch, .int .i64 g.freed]) (gL x.gs left) rfl (.tmp 35) rfl hr (fun _ => rfl) Try.underlying39 rfl ?_ ?_)
        · intro hl0
          go_wp2_with fail
          go_ret
          have hR := HR.out
          have GR := GG.out
          rw [← hR] at GR ⊢
          have hbp : bg ≠ p := HP.out.gm.ne HP.out.at_
          have hba := HP.out.ne
          refine ⟨rfl, ⟨A6.out.fr FR.out (by simp; omega), (HRR.out.mp.congr fun j => ?_).mono (by omega), (K6.out.fr FR.out (by simp; omega)).mono (by omega), hba, GR, hb1, hb2⟩, (F6.out.more (T := [p, bg]) (by simp)).trans FR.out (by simp; omega)⟩
          show (gL x.gs left j).map Gr.v = _
          rw [gL_none _ _ hl0]
          rfl
        · intro j c w6 cnt6 hwj hlj hgj hr6 hlt6 hf6 hs6 hen
          have hOj : gO x.gs j = some c := by
            have hgj' := hgj
            unfold gL at hgj'
            rw [hlj] at hgj'
            simpa using hgj'
          have HOJ := Lib.hid hOj
          have hsome : ((fun j => (gL x.gs left j).map Gr.v) j).isSome = true := by show ((gL x.gs left j).map Gr.v).isSome = true; rw [hgj]; rfl
          have HSM := Lib.hid hsome
          have F6R := Lib.hid ((FR.out.trans hf6 (T := [rr]) (by simp)).trans0 (show Fr [] w6 (w6.alloc (.cells #[.int .u32 c.a, .int .u32 c.s, .bool c.rests, .bool c.rests, .int .i64 c.freed] 91)) from (by repeat (first | exact Fr.refl _ _ | assumption | refine Fr.trans0 ?_ (by assumption) | refine Fr.drewN ?_ _ | refine Fr.alloc ?_ _ | refine Fr.drew ?_))))
          have AG : At (w6.alloc (.cells #[.int .u32 c.a, .int .u32 c.s, .bool c.rests, .bool c.rests, .int .i64 c.freed] 91)) wr.heap.size 91 #[.int .u32 c.a, .int .u32 c.s, .bool c.rests, .bool c.rests, .int .i64 c.freed] := by
            rw [← hs6]
            exact At.new _ _ _
          have AG := Lib.hid AG
          have hr6 := hr6.congr (left' := fun m => if m = j then false else left m) (fun _ => rfl) (fun m => by by_cases h : m = j <;> simp [h])
          have MG := Lib.hid (hr6.fr0 (w' := w6.alloc (.cells #[.int .u32 c.a, .int .u32 c.s, .bool c.rests, .bool c.rests, .int .i64 c.freed] 91)) (by repeat (first | exact Fr.refl _ _ | assumption | refine Fr.trans0 ?_ (by assumption) | refine Fr.drewN ?_ _ | refine Fr.alloc ?_ _ | refine Fr.drew ?_)))
          have hbp : bg ≠ p := HP.out.gm.ne HP.out.at_
          have PG := Lib.hid (A6.out.fr F6R.out (by simp; omega))
          have hww := FR.out.size
          clear hOj hsome
          go_wp2_with fail
          refine wp_region_L (fun W => At W wr.heap.size 91 #[.int .u32 c.a, .int .u32 c.s, .bool c.rests, .bool c.rests, .int .i64 c.freed] ∧ At W p 76 (Sx.cells { x with sw := true, sws := x.sws + 1 } ha hs bg ba) ∧ Mr Try.prog 39 .u64 W bg rr i (fun j => (gL x.gs left j).map Gr.v) (fun m => if m = j then false else left m) cnt6 ∧ Fr [bg, rr] w5 W) [6] (by kernel_rfl) ⟨AG.out.hp rfl, PG.out.hp rfl, MG.out.fr0 (Fr.refl _ _).drew, F6R.out.drew⟩ (fun hHeld => ?_)
          refine wpAnyL_take (i := 0) (v := ?_) rfl (by kernel_rfl) (fun _ _ _ h => h) (Or.inl ⟨by rfl, ?_⟩) (by assumption) ?_; rotate_left; (focus (intro w hSw; skip; go_simp; (try with_reducible rfl))); (try (refine wpAnyL_norm (by simp only [Act.put, List.setIfInBounds_toArray, List.set_cons_zero, List.set_cons_succ]; rfl) ?_))
          refine wpAnyL_take (i := 1) (v := ?_) rfl (by kernel_rfl) (fun _ _ _ h => h) (Or.inl ⟨by rfl, ?_⟩) (by assumption) ?_; rotate_left; (focus (intro w hSw; skip; go_simp; (try with_reducible rfl))); (try (refine wpAnyL_norm (by simp only [Act.put, List.setIfInBounds_toArray, List.set_cons_zero, List.set_cons_succ]; rfl) ?_))
          refine wpAnyL_take (i := 2) (v := ?_) rfl (by kernel_rfl) (fun _ _ _ h => h) (Or.inl ⟨by rfl, ?_⟩) (by assumption) ?_; rotate_left; (focus (intro w hSw; skip; go_simp; (try with_reducible rfl))); (try (refine wpAnyL_norm (by simp only [Act.put, List.setIfInBounds_toArray, List.set_cons_zero, List.set_cons_succ]; rfl) ?_))
          refine wpAnyL_take (i := 3) (v := ?_) rfl (by kernel_rfl) (fun _ _ _ h => h) (Or.inl ⟨by rfl, ?_⟩) (by assumption) ?_; rotate_left; (focus (intro w hSw; have c : _ = some (Value.map (some bg)) := hSw.2.1.cell 2; go_simp; (try with_reducible rfl))); (try (refine wpAnyL_norm (by simp only [Act.put, List.setIfInBounds_toArray, List.set_cons_zero, List.set_cons_succ]; rfl) ?_))
          refine wpAnyL_take (i := 4) (v := ?_) rfl (by kernel_rfl) (fun _ _ _ h => h) (Or.inl ⟨by rfl, ?_⟩) (by assumption) ?_; rotate_left; (focus (intro w hSw; skip; go_simp; (try with_reducible rfl))); (try (refine wpAnyL_norm (by simp only [Act.put, List.setIfInBounds_toArray, List.set_cons_zero, List.set_cons_succ]; rfl) ?_))
          refine wpAnyL_take (i := 5) rfl (by kernel_rfl) (fun _ _ _ h => h) (yields_load_at 91 (.tmp 6) rfl ⟨wr.heap.size, 0, none⟩ rfl [.int .u32 c.a, .int .u32 c.s, .bool c.rests, .bool c.rests, .int .i64 c.freed] _ (fun W hW => hW.1.all _ rfl) Try.underlying91 rfl infoGr rfl) (by assumption) ?_; (try (refine wpAnyL_norm (by simp only [Act.put, List.setIfInBounds_toArray, List.set_cons_zero, List.set_cons_succ]; rfl) ?_))
          refine wpAnyL_ready (rs := [6]) (by kernel_rfl) (by simp) ?_; refine AllReadyL.cons rfl (fun K hK => ?_) AllReadyL.nil
          refine wp_mstore_in (.tmp 47) (.tmp 48) (.tmp 49) 73 rfl hHeld.2.2.1 Try.underlying39 91 Try.underlying73 (by unfold maxLen; omega) j _ rfl rfl rfl hwj HSM.out ?_
          intro w7 hm7 hf7 hs7
          refine hK.out _ _ (fun h => (h (by decide)).elim) (fun _ => ?_); clear hK K; (try (refine wpAnyL_norm (by simp only [Act.put, List.setIfInBounds_toArray, List.set_cons_zero, List.set_cons_succ]; rfl) ?_))
          refine wpAnyL_done (by kernel_rfl) ?_ _
          go_wp2_with fail
          have M7 := hm7.congr (gL_step x.gs left HOJ.out) (fun _ => rfl)
          have F7 := hHeld.2.2.2.trans hf7 (by simp)
          go_roundw
          case rel =>
            refine ⟨_, _, M7, fun m hm => ?_, F7⟩
            by_cases hmj : m = j
            · rw [hmj, HOJ.out]; rfl
            · exact CK.out m (by simpa [hmj] using hm)
          case measure =>
            rw [M7.left_eq, HRR.out.left_eq]
            exact hlt6
    · have hne : e.num ≠ x.sws + 1 := HB2N.out.1 rfl
      go_wp2_with fail
      go_ret
      rw [if_pos (.inr hne)] at hR
      rw [← hR]
      exact ⟨rfl, HM.out.fr0 hHeld.2.2, hHeld.2.2.more (by simp)⟩
  · refine wpAnyL_take (i := 4) (v := ?_) rfl (by kernel_rfl) (fun _ _ _ h => h) (Or.inl ⟨by rfl, ?_⟩) (by assumption) ?_; rotate_left; (focus (intro w hSw; skip; go_simp; (try with_reducible rfl))); (try (refine wpAnyL_norm (by simp only [Act.put, List.setIfInBounds_toArray, List.set_cons_zero, List.set_cons_succ]; rfl) ?_))
    refine wpAnyL_take (i := 5) (v := undef) rfl (by kernel_rfl) (fun _ _ _ h => h) (Or.inr ⟨by rfl, rfl⟩) (by assumption) ?_; (try (refine wpAnyL_norm (by simp only [Act.put, List.setIfInBounds_toArray, List.set_cons_zero, List.set_cons_succ]; rfl) ?_))
    refine wpAnyL_take (i := 6) (v := undef) rfl (by kernel_rfl) (fun _ _ _ h => h) (Or.inr ⟨by rfl, rfl⟩) (by assumption) ?_; (try (refine wpAnyL_norm (by simp only [Act.put, List.setIfInBounds_toArray, List.set_cons_zero, List.set_cons_succ]; rfl) ?_))
    refine wpAnyL_take (i := 7) (v := undef) rfl (by kernel_rfl) (fun _ _ _ h => h) (Or.inr ⟨by rfl, rfl⟩) (by assumption) ?_; (try (refine wpAnyL_norm (by simp only [Act.put, List.setIfInBounds_toArray, List.set_cons_zero, List.set_cons_succ]; rfl) ?_))
    refine wpAnyL_take (i := 8) (v := undef) rfl (by kernel_rfl) (fun _ _ _ h => h) (Or.inr ⟨by rfl, rfl⟩) (by assumption) ?_; (try (refine wpAnyL_norm (by simp only [Act.put, List.setIfInBounds_toArray, List.set_cons_zero, List.set_cons_succ]; rfl) ?_))
    refine wpAnyL_take (i := 9) (v := undef) rfl (by kernel_rfl) (fun _ _ _ h => h) (Or.inr ⟨by rfl, rfl⟩) (by assumption) ?_; (try (refine wpAnyL_norm (by simp only [Act.put, List.setIfInBounds_toArray, List.set_cons_zero, List.set_cons_succ]; rfl) ?_))
    refine wpAnyL_take (i := 10) (v := undef) rfl (by kernel_rfl) (fun _ _ _ h => h) (Or.inr ⟨by rfl, rfl⟩) (by assumption) ?_; (try (refine wpAnyL_norm (by simp only [Act.put, List.setIfInBounds_toArray, List.set_cons_zero, List.set_cons_succ]; rfl) ?_))
    refine wpAnyL_take (i := 11) (v := undef) rfl (by kernel_rfl) (fun _ _ _ h => h) (Or.inr ⟨by rfl, rfl⟩) (by assumption) ?_; (try (refine wpAnyL_norm (by simp only [Act.put, List.setIfInBounds_toArray, List.set_cons_zero, List.set_cons_succ]; rfl) ?_))
    refine wpAnyL_take (i := 12) (v := undef) rfl (by kernel_rfl) (fun _ _ _ h => h) (Or.inr ⟨by rfl, rfl⟩) (by assumption) ?_; (try (refine wpAnyL_norm (by simp only [Act.put, List.setIfInBounds_toArray, List.set_cons_zero, List.set_cons_succ]; rfl) ?_))
    refine wpAnyL_take (i := 13) (v := ?_) rfl (by kernel_rfl) (fun _ _ _ h => h) (Or.inl ⟨by rfl, ?_⟩) (by assumption) ?_; rotate_left; (focus (intro w hSw; skip; go_simp; (try with_reducible rfl))); (try (refine wpAnyL_norm (by simp only [Act.put, List.setIfInBounds_toArray, List.set_cons_zero, List.set_cons_succ]; rfl) ?_))
    refine wpAnyL_done (by kernel_rfl) ?_ _
    go_wp2_with fail
    go_ret
    rw [if_pos (.inl hB1)] at hR
    rw [← hR]
    exact ⟨rfl, HM.out.fr0 hHeld.2.2, hHeld.2.2.more (by simp)⟩
end Go.Proofs.Ytkbdoiefgmbikaa
