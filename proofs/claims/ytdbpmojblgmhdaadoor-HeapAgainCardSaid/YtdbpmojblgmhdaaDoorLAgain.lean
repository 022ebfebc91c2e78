/-
  HeapAgain: when all is freed and released, a heap is as it was at first. Condition: the table of math/bits is as the library lays it (the row lists it).
-/



import Derived.Test.YtdbpmojblgmhdaaDoorHAct
import Derived.Test.YtdbpmojblgmhdaaDoorDoor
import Derived.Deep.CutBlock
import Derived.Deep.DeepCutAuto
set_option linter.unusedVariables false
namespace Go.Proofs.YtdbpmojblgmhdaaDoor
open Go.ChangeShapes Go.WideShapes Go.ChangeAt Go.RowKit
namespace heapAgain
theorem mal_all : ∀ n, n < 20 → malP (256, 256 * (1 + n)) ([] ++ []) (256 * (1 + n)) = (some (256, 256 * (1 + n)), 0) := by decide +kernel
theorem room_none (n : Nat) : roomP (256, 256 * (1 + n)) ([(256, 256 * (1 + n))] ++ []) = 0 := by
  have hc : cnt (frP (256, 256 * (1 + n)) ([(256, 256 * (1 + n))] ++ [])) 1024 = 0 := cnt_zero _ _ fun p _ => by
    rw [← Bool.not_eq_true, frP_iff, inn_iff]
    rintro ⟨h1, h2⟩
    have : tou ([(256, 256 * (1 + n))] ++ []) p = true := (tou_iff _ _).2 ⟨(256, 256 * (1 + n)), by simp, by dsimp only at h1 ⊢; omega⟩
    rw [h2] at this; cases this
  have ht : ∀ c, c < 5 → tot (fcl ([(256, 256 * (1 + n))] ++ []) c) 1024 = 0 := fun c hcl => tot_zero _ (fun p s => by
    rw [← Bool.not_eq_true, fcl_iff, tcl_iff]
    rintro ⟨⟨x, hx, e1, e2⟩, h2, h3⟩
    simp at hx
    subst hx
    dsimp only at e1 e2
    rcases sz_cases hcl with ⟨q, r⟩ | ⟨q, r⟩ | ⟨q, r⟩ | ⟨q, r⟩ | ⟨q, r⟩ <;> rw [q] at e1 <;> try omega
    rw [q] at h3
    rw [r] at h2
    refine h3 ?_
    simp
    omega) 1024
  unfold roomP
  rw [hc, ht 0 (by omega), ht 1 (by omega), ht 2 (by omega), ht 3 (by omega), ht 4 (by omega)]
theorem less_head {x : Rg} {l : List Rg} (h : (x :: l).Pairwise (fun a b => a.1 < b.1)) : less (x :: l) x = l := by
  obtain ⟨h1, _⟩ := List.pairwise_cons.1 h
  unfold less
  rw [List.filter_cons]
  simp only [ne_eq, not_true_eq_false, decide_false, Bool.false_eq_true, if_false]
  refine List.filter_eq_self.2 fun y hy => ?_
  have := h1 y hy
  simp
  rintro rfl
  omega
set_option maxHeartbeats 2000000 in
set_option maxRecDepth 100000 in
theorem walk0 (n : Nat) (hn : n < 20) (a0 : Int) (h00 : 0 ≤ a0) (h01 : a0 ≤ 255) (he : a0 % 20 = n) (a1 : Option Addr) (b off len1 cap1 : Nat) (w : World) (hT : Tab32 w) (ha1 : len1 = 0 ∨ a1 = some ⟨b, off, none⟩) (hlen : len1 ≤ 9223372036854775807)
    (hc : ∀ i, i < len1 → ∃ z : Nat, w.cell? ⟨b, off + i, none⟩ = some (.int .u8 z) ∧ z < 256) :
    Calls Tryd.prog 5 #[.int .u8 a0, .slice a1 len1 cap1] w fun e w' => e = .returned (.bool true) ∧ Fr [] w w' := by
  rcases ha1 with h0 | rfl
  · skip
    have CW := Lib.hid (works_any w hT)
    have HT := Lib.hid hT
    have HC := Lib.hid hc
    have HL1 := Lib.hid hlen
    obtain ⟨N, hN⟩ : ∃ N, 256 * (1 + n) = N := ⟨_, rfl⟩
    have hz : (256 : Int) * (1 + (n : Int)) = (N : Int) := by omega
    have hNb : N ≤ 5120 ∧ N % 256 = 0 ∧ 0 < N := by omega
    have hm := mal_all n hn
    have hr := room_none n
    rw [hN] at hm hr
    have HM := Lib.hid hm
    have HR := Lib.hid hr
    clear hm hr hN
    have RG := Lib.hid region_any
    clear hT hc hlen
    go_enter Tryd.func5, Tryd.ntmps5
    go_wp2_with fail
    refine (CW.out).mono ?_
    rintro e w1 ⟨rfl, hf1⟩
    have HF1 := Lib.hid hf1
    clear hf1
    go_wp2_with fail
    try rw [hz]
    have CG := RG.out 256 N w1
    refine CG.mono ?_
    rintro e w2 ⟨rfl, hf2⟩
    have HF2 := Lib.hid (HF1.out.trans0 hf2)
    clear hf2 CG
    go_wp2_with fail
    have hfa : Fr [] w2 (w2.alloc (.cells #[.int .u32 256, .int .u32 N] 31)) := (by repeat (first | exact Fr.refl _ _ | assumption | refine Fr.trans0 ?_ (by assumption) | refine Fr.drewN ?_ _ | refine Fr.alloc ?_ _ | refine Fr.drew ?_))
    have X := Lib.hid (At.new w2 31 #[.int .u32 256, .int .u32 N])
    have CN := hnew_any (w2.alloc (.cells #[.int .u32 256, .int .u32 N] 31)) (256, N) (by show 256 % 256 = 0; decide) hNb.2.1 hNb.2.2 (by dsimp only; omega)
    refine CN.mono ?_
    rintro e w3 ⟨I, rfl, h3, hge, hf3⟩
    have H3 := Lib.hid h3
    have HF3 := Lib.hid ((HF2.out.trans0 hfa).trans0 hf3)
    have X3 := Lib.hid (X.out.fr hf3 (by simp))
    have s2 := HF2.out.size
    have HG := Lib.hid (fun k hk => show w2.heap.size < k from by have := hge k hk; simp at this; omega)
    have HGw := Lib.hid (fun k hk => show w.heap.size ≤ k from by have := HG.out k hk; omega)
    clear h3 hge hf3 hfa CN X
    go_upto_block 0 with (fail)
    go_cut [8] (fun v wx => ∃ (L R : List Rg), Hp wx I (256, N) L R ∧ At wx w2.heap.size 31 #[.int .u32 256, .int .u32 N] ∧ Fr [] w wx)
    case first =>
      go_wp2_with fail
      go_loopw [8] (fun v wr => ∃ (i : Nat) (L R : List Rg), i ≤ 50 ∧ v = .int .i64 i ∧ Hp wr I (256, N) L R ∧ At wr w2.heap.size 31 #[.int .u32 256, .int .u32 N] ∧ Fr [] w wr) (fun v _ => 50 - (intOf v).toNat)
      case atStart => exact ⟨0, [], [], by omega, rfl, H3.out, X3.out, HF3.out⟩
      case round =>
        obtain ⟨i, L, R, hi, rfl, hh, hx, hf⟩ := hrel
        have HH := Lib.hid hh
        have HX := Lib.hid hx
        have HF := Lib.hid hf
        clear hh hx hf X3 H3 HF3 CW
        by_cases hgo : 2 * i + 1 < len1 ∧ i < 50
        · obtain ⟨g1, g2⟩ := hgo
          have q1 : 2 * (i : Int) + 1 < (len1 : Int) := by omega
          have q2 : (i : Int) < 50 := by omega
          exfalso
          omega
        · by_cases h9 : 2 * i + 1 < len1
          · have q1 : 2 * (i : Int) + 1 < (len1 : Int) := by omega
            have q2 : ¬ ((i : Int) < 50) := by omega
            go_wp2
            all_goals (go_meet; exact ⟨L, R, HH.out, HX.out, HF.out⟩)
          · have q1 : ¬ (2 * (i : Int) + 1 < (len1 : Int)) := by omega
            go_wp2
            all_goals (go_meet; exact ⟨L, R, HH.out, HX.out, HF.out⟩)
    case rest =>
      obtain ⟨L, R, hh, hx, hf⟩ := hcut
      rename World => wx
      have HH := Lib.hid hh
      have HX := Lib.hid hx
      have HF := Lib.hid hf
      clear hh hx hf X3 H3 HF3 CW
      have CL := live_any HH.out
      go_wp2_with fail
      refine CL.mono ?_
      rintro e w6 ⟨vl, rfl, hol, hf6⟩
      have hLb := HH.out.room.2.2.1
      have hb0 := HH.out.lt
      have HLT := Lib.hid hb0
      have H6 := Lib.hid (HH.out.fr0 hf6)
      have X6 := Lib.hid (HX.out.fr hf6 (by simp))
      have F6 := Lib.hid (HF.out.trans0 hf6)
      have O6 := Lib.hid hol
      obtain ⟨ga, gc, rfl, _⟩ := own_slice hol
      obtain ⟨B, hB⟩ : ∃ B, wx.heap.size = B := ⟨_, rfl⟩
      rw [hB] at HLT O6
      have hs6 := hf6.size
      rw [hB] at hs6
      have hXB := HX.out.lt
      rw [hB] at hXB
      clear hol hf6 hb0 CL HH HX HF hB
      go_wp2_with fail
      go_loopw [10] (fun v wr => ∃ (i : Nat) (R' : List Rg), i ≤ L.length ∧ v = .int .i64 i ∧ Hp wr I (256, N) (L.drop i) R' ∧ At wr w2.heap.size 31 #[.int .u32 256, .int .u32 N] ∧ wr.ownsRow B 31 2 (.slice ga L.length gc) L.length (rgv L) ∧ Fr [] w wr) (fun v _ => L.length - (intOf v).toNat)
      case atStart => exact ⟨0, R, by omega, rfl, by rw [List.drop_zero]; exact H6.out, X6.out, O6.out, F6.out⟩
      case round =>
        obtain ⟨i, R', hi, rfl, hh, hx, ho, hf⟩ := hrel
        have HH := Lib.hid hh
        have HX := Lib.hid hx
        have HF := Lib.hid hf
        have HO := Lib.hid ho
        clear hh hx hf ho H6 X6 O6 F6
        by_cases hil : i < L.length
        · have q1 : (i : Int) < (L.length : Int) := by omega
          obtain ⟨⟨r1, r2⟩, hr⟩ : ∃ r, L[i]? = some r := ⟨_, List.getElem?_eq_getElem hil⟩
          obtain ⟨g, c, hv, hbg, hrow⟩ := row_at HO.out (by intro e; rw [e] at hil; simp at hil)
          cases hv
          obtain ⟨k0, k1⟩ := hrow i _ hr
          have hdrop : L.drop i = (r1, r2) :: L.drop (i + 1) := by
            rw [List.drop_eq_getElem_cons hil]
            rw [List.getElem?_eq_getElem hil] at hr
            injection hr with hr
            rw [hr]
          have CF := free_yes (r := (r1, r2)) HH.out (by rw [hdrop]; simp)
          rw [hdrop] at CF
          rw [less_head (by rw [← hdrop]; exact HH.out.sl)] at CF
          have CF := Lib.hid CF
          obtain ⟨M, hM⟩ : ∃ M, L.length = M := ⟨_, rfl⟩
          have HMM := Lib.hid hM
          have hMb : M ≤ 1000000 := by omega
          rw [hM] at q1 hil ⊢
          rw [hM] at HO
          clear hrow hr hdrop hM
          go_wp2_with fail
          refine (CF.out).mono ?_
          rintro e w7 ⟨rfl, h7, hf7⟩
          have H7 := Lib.hid h7
          have X7 := Lib.hid (HX.out.fr hf7 (fun hk => by have := HG.out _ hk; omega))
          have F7 := Lib.hid (HF.out.trans hf7 (fun k hk => .inr (HGw.out k hk)))
          have O7 := Lib.hid (own_fr HO.out hf7 (fun g' hg' hk => by have a1 := (HO.out.lt g' hg').1; have a2 := HLT.out _ hk; omega))
          clear h7 hf7
          go_wp2
          go_roundw
          case rel => exact ⟨i + 1, _, by omega, by go_num, H7.out, X7.out, O7.out, F7.out⟩
          case measure =>
            simp [intOf]; omega
        · obtain rfl : i = L.length := by omega
          have HH2 := Lib.hid (show Hp wr I (256, N) [] R' by have := HH.out; rwa [List.drop_length] at this)
          clear HH HO hil
          have CR := Lib.hid (rest_any HH2.out)
          go_wp2_with fail
          refine (CR.out).mono ?_
          rintro e w8 ⟨vr, rfl, hor, hf8⟩
          have H8 := Lib.hid (HH2.out.fr0 hf8)
          have X8 := Lib.hid (HX.out.fr hf8 (by simp))
          have F8 := Lib.hid (HF.out.trans0 hf8)
          obtain ⟨B2, hB2⟩ : ∃ B2, wr.heap.size = B2 := ⟨_, rfl⟩
          have HLT2 := Lib.hid HH2.out.lt
          rw [hB2] at HLT2 hor
          have O8 := Lib.hid hor
          have hRb := HH2.out.room.2.2.2.1
          obtain ⟨ga2, gc2, rfl, _⟩ := own_slice hor
          clear hor hf8 CR HX HF hB2 HH2
          obtain ⟨wq, rfl⟩ : ∃ wq : World, wq = wr := ⟨_, rfl⟩
          go_wp2_with fail
          go_loopw [12] (fun v wr => ∃ (i : Nat), i ≤ R'.length ∧ v = .int .i64 i ∧ Hp wr I (256, N) [] (R'.drop i) ∧ At wr w2.heap.size 31 #[.int .u32 256, .int .u32 N] ∧ wr.ownsRow B2 31 2 (.slice ga2 R'.length gc2) R'.length (rgv R') ∧ Fr [] w wr) (fun v _ => R'.length - (intOf v).toNat)
          case atStart => exact ⟨0, by omega, rfl, by rw [List.drop_zero]; exact H8.out, X8.out, O8.out, F8.out⟩
          case round =>
            obtain ⟨i, hi, rfl, hh, hx, ho, hf⟩ := hrel
            have HH := Lib.hid hh
            have HX := Lib.hid hx
            have HF := Lib.hid hf
            have HO := Lib.hid ho
            clear hh hx hf ho H8 X8 O8 F8
            by_cases hil : i < R'.length
            · have q1 : (i : Int) < (R'.length : Int) := by omega
              obtain ⟨⟨r1, r2⟩, hr⟩ : ∃ r, R'[i]? = some r := ⟨_, List.getElem?_eq_getElem hil⟩
              obtain ⟨g, c, hv, hbg, hrow⟩ := row_at HO.out (by intro e; rw [e] at hil; simp at hil)
              cases hv
              obtain ⟨k0, k1⟩ := hrow i _ hr
              have hdrop : R'.drop i = (r1, r2) :: R'.drop (i + 1) := by
                rw [List.drop_eq_getElem_cons hil]
                rw [List.getElem?_eq_getElem hil] at hr
                injection hr with hr
                rw [hr]
              have CF := release_yes (r := (r1, r2)) HH.out (by rw [hdrop]; simp)
              rw [hdrop] at CF
              rw [less_head (by rw [← hdrop]; exact HH.out.sr)] at CF
              have CF := Lib.hid CF
              obtain ⟨M, hM⟩ : ∃ M, R'.length = M := ⟨_, rfl⟩
              have hMb : M ≤ 1000000 := by omega
              rw [hM] at q1 hil ⊢
              rw [hM] at HO
              clear hrow hr hdrop hM
              go_wp2_with fail
              refine (CF.out).mono ?_
              rintro e w7 ⟨rfl, h7, hf7⟩
              have H7 := Lib.hid h7
              have X7 := Lib.hid (HX.out.fr hf7 (fun hk => by have := HG.out _ hk; omega))
              have F7 := Lib.hid (HF.out.trans hf7 (fun k hk => .inr (HGw.out k hk)))
              have O7 := Lib.hid (own_fr HO.out hf7 (fun g' hg' hk => by have a1 := (HO.out.lt g' hg').1; have a2 := HLT2.out _ hk; omega))
              clear h7 hf7
              go_wp2
              go_roundw
              case rel => exact ⟨i + 1, by omega, by go_num, H7.out, X7.out, O7.out, F7.out⟩
              case measure => simp [intOf]; omega
            · obtain rfl : i = R'.length := by omega
              have HH2 := Lib.hid (show Hp wr I (256, N) [] [] by have := HH.out; rwa [List.drop_length] at this)
              have x1 := HX.out.cell 1
              have x0 := HX.out.cell 0
              simp only [List.getElem?_toArray, List.getElem?_cons_zero, List.getElem?_cons_succ] at x0 x1
              have CM := Lib.hid (malloc_is HH2.out (HT.out.fr HF.out (by simp)) (size := N) (by omega) HM.out)
              clear HH HO hil
              go_wp2_with fail
              refine (CM.out).mono ?_
              rintro e w9 ⟨rfl, h9, hf9⟩
              simp only [rv, Option.getD_some]
              have X9 := Lib.hid (HX.out.fr hf9 (fun hk => by have := HG.out _ hk; omega))
              have F9 := Lib.hid (HF.out.trans hf9 (fun k hk => .inr (HGw.out k hk)))
              have H9 := Lib.hid h9
              clear h9 hf9 CM x0 x1
              obtain ⟨w10, hw10⟩ : ∃ W, w9.alloc (.cells #[.int .u32 256, .int .u32 N] 31) = W := ⟨_, rfl⟩
              have hfa : Fr [] w9 w10 := by rw [← hw10]; exact (by repeat (first | exact Fr.refl _ _ | assumption | refine Fr.trans0 ?_ (by assumption) | refine Fr.drewN ?_ _ | refine Fr.alloc ?_ _ | refine Fr.drew ?_))
              have Y := Lib.hid (show At w10 w9.heap.size 31 #[.int .u32 256, .int .u32 N] by rw [← hw10]; exact At.new _ _ _)
              have H10 := Lib.hid (H9.out.fr0 hfa)
              have X10 := Lib.hid (X9.out.fr hfa (by simp))
              have F10 := Lib.hid (F9.out.trans0 hfa)
              have CV := Lib.hid (live_len H10.out 1 rfl)
              clear hfa
              go_wp2_with fail
              refine (CV.out).mono ?_
              rintro e w11 ⟨ga3, gc3, rfl, h11, hf11⟩
              have Y11 := Lib.hid (Y.out.fr hf11 (by simp))
              have X11 := Lib.hid (X10.out.fr hf11 (by simp))
              have F11 := Lib.hid (F10.out.trans0 hf11)
              have CR2 := Lib.hid (rest_len h11 0 rfl)
              clear h11 hf11
              go_wp2_with fail
              refine (CR2.out).mono ?_
              rintro e w12 ⟨ga4, gc4, rfl, h12, hf12⟩
              have Y12 := Lib.hid (Y11.out.fr hf12 (by simp))
              have X12 := Lib.hid (X11.out.fr hf12 (by simp))
              have F12 := Lib.hid (F11.out.trans0 hf12)
              have CRM := room_any h12.h
              rw [show roomP (256, N) (insO [] (some (256, N)) ++ []) = 0 from HR.out] at CRM
              have CRM := Lib.hid CRM
              have y0 := Y12.out.cell 0
              have y1 := Y12.out.cell 1
              have x0 := X12.out.cell 0
              have x1 := X12.out.cell 1
              simp only [List.getElem?_toArray, List.getElem?_cons_zero, List.getElem?_cons_succ] at x0 x1 y0 y1
              clear h12 hf12
              go_wp2_with fail
              refine (CRM.out).mono ?_
              rintro e w13 ⟨rfl, hf13⟩
              have F13 := Lib.hid (F12.out.trans0 hf13)
              clear hf13
              go_wp2
              go_ret
              exact ⟨rfl, F13.out⟩
  · skip
    have CW := Lib.hid (works_any w hT)
    have HT := Lib.hid hT
    have HC := Lib.hid hc
    have HL1 := Lib.hid hlen
    obtain ⟨N, hN⟩ : ∃ N, 256 * (1 + n) = N := ⟨_, rfl⟩
    have hz : (256 : Int) * (1 + (n : Int)) = (N : Int) := by omega
    have hNb : N ≤ 5120 ∧ N % 256 = 0 ∧ 0 < N := by omega
    have hm := mal_all n hn
    have hr := room_none n
    rw [hN] at hm hr
    have HM := Lib.hid hm
    have HR := Lib.hid hr
    clear hm hr hN
    have RG := Lib.hid region_any
    clear hT hc hlen
    go_enter Tryd.func5, Tryd.ntmps5
    go_wp2_with fail
    refine (CW.out).mono ?_
    rintro e w1 ⟨rfl, hf1⟩
    have HF1 := Lib.hid hf1
    clear hf1
    go_wp2_with fail
    try rw [hz]
    have CG := RG.out 256 N w1
    refine CG.mono ?_
    rintro e w2 ⟨rfl, hf2⟩
    have HF2 := Lib.hid (HF1.out.trans0 hf2)
    clear hf2 CG
    go_wp2_with fail
    have hfa : Fr [] w2 (w2.alloc (.cells #[.int .u32 256, .int .u32 N] 31)) := (by repeat (first | exact Fr.refl _ _ | assumption | refine Fr.trans0 ?_ (by assumption) | refine Fr.drewN ?_ _ | refine Fr.alloc ?_ _ | refine Fr.drew ?_))
    have X := Lib.hid (At.new w2 31 #[.int .u32 256, .int .u32 N])
    have CN := hnew_any (w2.alloc (.cells #[.int .u32 256, .int .u32 N] 31)) (256, N) (by show 256 % 256 = 0; decide) hNb.2.1 hNb.2.2 (by dsimp only; omega)
    refine CN.mono ?_
    rintro e w3 ⟨I, rfl, h3, hge, hf3⟩
    have H3 := Lib.hid h3
    have HF3 := Lib.hid ((HF2.out.trans0 hfa).trans0 hf3)
    have X3 := Lib.hid (X.out.fr hf3 (by simp))
    have s2 := HF2.out.size
    have HG := Lib.hid (fun k hk => show w2.heap.size < k from by have := hge k hk; simp at this; omega)
    have HGw := Lib.hid (fun k hk => show w.heap.size ≤ k from by have := HG.out k hk; omega)
    clear h3 hge hf3 hfa CN X
    go_upto_block 0 with (fail)
    go_cut [8] (fun v wx => ∃ (L R : List Rg), Hp wx I (256, N) L R ∧ At wx w2.heap.size 31 #[.int .u32 256, .int .u32 N] ∧ Fr [] w wx)
    case first =>
      go_wp2_with fail
      go_loopw [8] (fun v wr => ∃ (i : Nat) (L R : List Rg), i ≤ 50 ∧ v = .int .i64 i ∧ Hp wr I (256, N) L R ∧ At wr w2.heap.size 31 #[.int .u32 256, .int .u32 N] ∧ Fr [] w wr) (fun v _ => 50 - (intOf v).toNat)
      case atStart => exact ⟨0, [], [], by omega, rfl, H3.out, X3.out, HF3.out⟩
      case round =>
        obtain ⟨i, L, R, hi, rfl, hh, hx, hf⟩ := hrel
        have HH := Lib.hid hh
        have HX := Lib.hid hx
        have HF := Lib.hid hf
        clear hh hx hf X3 H3 HF3 CW
        by_cases hgo : 2 * i + 1 < len1 ∧ i < 50
        · obtain ⟨g1, g2⟩ := hgo
          have q1 : 2 * (i : Int) + 1 < (len1 : Int) := by omega
          have q2 : (i : Int) < 50 := by omega
          go_wp2_with fail
          obtain ⟨z0, c0, hz0⟩ := HC.out (2 * i) (by omega)
          obtain ⟨z1, c1, hz1⟩ := HC.out (2 * i + 1) (by omega)
          have d0 := (HF.out.cell (a := ⟨b, off + 2 * i, none⟩) (lt_of_cell c0) (by simp)).trans c0
          have d1 := (HF.out.cell (a := ⟨b, off + (2 * i + 1), none⟩) (lt_of_cell c1) (by simp)).trans c1
          clear c0 c1
          have q3 : 2 * (i : Int) < (len1 : Int) := by omega
          have q4 : (2 * (i : Int)).toNat = 2 * i := by omega
          have q5 : (2 * (i : Int) + 1).toNat = 2 * i + 1 := by omega
          have q6 : 0 ≤ 2 * (i : Int) := by omega
          have q7 : 0 ≤ 2 * (i : Int) + 1 := by omega
          have q8 : IntKind.i64.wrap (2 * (i : Int)) = 2 * (i : Int) := by simp [IntKind.wrap, IntKind.signed, IntKind.bits]; omega
          have q9 : IntKind.i64.wrap (2 * (i : Int) + 1) = 2 * (i : Int) + 1 := by simp [IntKind.wrap, IntKind.signed, IntKind.bits]; omega
          refine wp_region_L (fun W => W.cell? ⟨b, off + 2 * i, none⟩ = some (.int .u8 z0) ∧ W.cell? ⟨b, off + (2 * i + 1), none⟩ = some (.int .u8 z1)) [12] (by kernel_rfl) ⟨d0, d1⟩ fun hHeld => ?_
          refine wpAnyL_take (i := 0) (v := ?_) rfl (by kernel_rfl) (fun _ _ _ h => h) (Or.inl ⟨by rfl, ?_⟩) (by assumption) ?_; rotate_left; (focus (intro w hSw; skip; go_simp; (try with_reducible rfl))); (try (refine wpAnyL_norm (by simp only [Act.put, List.setIfInBounds_toArray, List.set_cons_zero, List.set_cons_succ]; rfl) ?_))
          refine wpAnyL_take (i := 1) (v := ?_) rfl (by kernel_rfl) (fun _ _ _ h => h) (Or.inl ⟨by rfl, ?_⟩) (by assumption) ?_; rotate_left; (focus (intro w hSw; skip; go_simp; (try with_reducible rfl))); (try (refine wpAnyL_norm (by simp only [Act.put, List.setIfInBounds_toArray, List.set_cons_zero, List.set_cons_succ]; rfl) ?_))
          refine wpAnyL_take (i := 2) (v := ?_) rfl (by kernel_rfl) (fun _ _ _ h => h) (Or.inl ⟨by rfl, ?_⟩) (by assumption) ?_; rotate_left; (focus (intro w hSw; skip; go_simp; (try with_reducible rfl))); (try (refine wpAnyL_norm (by simp only [Act.put, List.setIfInBounds_toArray, List.set_cons_zero, List.set_cons_succ]; rfl) ?_))
          refine wpAnyL_take (i := 3) (v := ?_) rfl (by kernel_rfl) (fun _ _ _ h => h) (Or.inl ⟨by rfl, ?_⟩) (by assumption) ?_; rotate_left; (focus (intro w hSw; skip; go_simp; (try with_reducible rfl))); (try (refine wpAnyL_norm (by simp only [Act.put, List.setIfInBounds_toArray, List.set_cons_zero, List.set_cons_succ]; rfl) ?_))
          refine wpAnyL_take (i := 4) (v := ?_) rfl (by kernel_rfl) (fun _ _ _ h => h) (Or.inl ⟨by rfl, ?_⟩) (by assumption) ?_; rotate_left; (focus (intro w hSw; skip; go_simp; (try with_reducible rfl))); (try (refine wpAnyL_norm (by simp only [Act.put, List.setIfInBounds_toArray, List.set_cons_zero, List.set_cons_succ]; rfl) ?_))
          refine wpAnyL_take (i := 5) (v := ?_) rfl (by kernel_rfl) (fun _ _ _ h => h) (Or.inl ⟨by rfl, ?_⟩) (by assumption) ?_; rotate_left; (focus (intro w hSw; (obtain ⟨e0, e1⟩ := hSw); go_simp; (try with_reducible rfl))); (try (refine wpAnyL_norm (by simp only [Act.put, List.setIfInBounds_toArray, List.set_cons_zero, List.set_cons_succ]; rfl) ?_))
          refine wpAnyL_take (i := 6) (v := ?_) rfl (by kernel_rfl) (fun _ _ _ h => h) (Or.inl ⟨by rfl, ?_⟩) (by assumption) ?_; rotate_left; (focus (intro w hSw; skip; go_simp; (try with_reducible rfl))); (try (refine wpAnyL_norm (by simp only [Act.put, List.setIfInBounds_toArray, List.set_cons_zero, List.set_cons_succ]; rfl) ?_))
          refine wpAnyL_take (i := 7) (v := ?_) rfl (by kernel_rfl) (fun _ _ _ h => h) (Or.inl ⟨by rfl, ?_⟩) (by assumption) ?_; rotate_left; (focus (intro w hSw; skip; go_simp; (try with_reducible rfl))); (try (refine wpAnyL_norm (by simp only [Act.put, List.setIfInBounds_toArray, List.set_cons_zero, List.set_cons_succ]; rfl) ?_))
          refine wpAnyL_take (i := 8) (v := ?_) rfl (by kernel_rfl) (fun _ _ _ h => h) (Or.inl ⟨by rfl, ?_⟩) (by assumption) ?_; rotate_left; (focus (intro w hSw; skip; go_simp; (try with_reducible rfl))); (try (refine wpAnyL_norm (by simp only [Act.put, List.setIfInBounds_toArray, List.set_cons_zero, List.set_cons_succ]; rfl) ?_))
          refine wpAnyL_take (i := 9) (v := ?_) rfl (by kernel_rfl) (fun _ _ _ h => h) (Or.inl ⟨by rfl, ?_⟩) (by assumption) ?_; rotate_left; (focus (intro w hSw; skip; go_simp; (try with_reducible rfl))); (try (refine wpAnyL_norm (by simp only [Act.put, List.setIfInBounds_toArray, List.set_cons_zero, List.set_cons_succ]; rfl) ?_))
          refine wpAnyL_take (i := 10) (v := ?_) rfl (by kernel_rfl) (fun _ _ _ h => h) (Or.inl ⟨by rfl, ?_⟩) (by assumption) ?_; rotate_left; (focus (intro w hSw; skip; go_simp; (try with_reducible rfl))); (try (refine wpAnyL_norm (by simp only [Act.put, List.setIfInBounds_toArray, List.set_cons_zero, List.set_cons_succ]; rfl) ?_))
          refine wpAnyL_take (i := 11) (v := ?_) rfl (by kernel_rfl) (fun _ _ _ h => h) (Or.inl ⟨by rfl, ?_⟩) (by assumption) ?_; rotate_left; (focus (intro w hSw; (obtain ⟨e0, e1⟩ := hSw); go_simp; (try with_reducible rfl))); (try (refine wpAnyL_norm (by simp only [Act.put, List.setIfInBounds_toArray, List.set_cons_zero, List.set_cons_succ]; rfl) ?_))
          refine wpAnyL_ready (rs := [12]) (by kernel_rfl) (by simp) ?_; refine AllReadyL.cons rfl (fun K hK => ?_) AllReadyL.nil
          go_simp
          have CA := act_any (HH.out.fr0 ((Fr.refl [] wr).drew)) (HT.out.fr (HF.out.drew) (by simp)) z0 z1 hz0 hz1
          refine CA.mono ?_
          rintro e w5 ⟨rfl, L', R', hh5, hf5⟩
          have HH5 := Lib.hid hh5
          have hwf : Fr I.foot wr w5 := ((Fr.refl I.foot wr).drew).trans hf5 (fun k hk => .inl hk)
          have HX5 := Lib.hid (HX.out.fr hwf (fun hk => by have := HG.out _ hk; omega))
          have HF5 := Lib.hid (HF.out.trans hwf (fun k hk => .inr (HGw.out k hk)))
          refine hK.out _ _ (fun h => (h (by decide)).elim) (fun _ => ?_); clear hK K; (try (refine wpAnyL_norm (by simp only [Act.put, List.setIfInBounds_toArray, List.set_cons_zero, List.set_cons_succ]; rfl) ?_))
          refine wpAnyL_done (by kernel_rfl) ?_ _
          clear hh5 hf5 hwf CA hHeld d0 d1
          go_wp2
          go_roundw
          case rel => exact ⟨i + 1, L', R', by omega, by go_num, HH5.out, HX5.out, HF5.out⟩
          case measure => simp [intOf]; omega
        · by_cases h9 : 2 * i + 1 < len1
          · have q1 : 2 * (i : Int) + 1 < (len1 : Int) := by omega
            have q2 : ¬ ((i : Int) < 50) := by omega
            go_wp2
            all_goals (go_meet; exact ⟨L, R, HH.out, HX.out, HF.out⟩)
          · have q1 : ¬ (2 * (i : Int) + 1 < (len1 : Int)) := by omega
            go_wp2
            all_goals (go_meet; exact ⟨L, R, HH.out, HX.out, HF.out⟩)
    case rest =>
      obtain ⟨L, R, hh, hx, hf⟩ := hcut
      rename World => wx
      have HH := Lib.hid hh
      have HX := Lib.hid hx
      have HF := Lib.hid hf
      clear hh hx hf X3 H3 HF3 CW
      have CL := live_any HH.out
      go_wp2_with fail
      refine CL.mono ?_
      rintro e w6 ⟨vl, rfl, hol, hf6⟩
      have hLb := HH.out.room.2.2.1
      have hb0 := HH.out.lt
      have HLT := Lib.hid hb0
      have H6 := Lib.hid (HH.out.fr0 hf6)
      have X6 := Lib.hid (HX.out.fr hf6 (by simp))
      have F6 := Lib.hid (HF.out.trans0 hf6)
      have O6 := Lib.hid hol
      obtain ⟨ga, gc, rfl, _⟩ := own_slice hol
      obtain ⟨B, hB⟩ : ∃ B, wx.heap.size = B := ⟨_, rfl⟩
      rw [hB] at HLT O6
      have hs6 := hf6.size
      rw [hB] at hs6
      have hXB := HX.out.lt
      rw [hB] at hXB
      clear hol hf6 hb0 CL HH HX HF hB
      go_wp2_with fail
      go_loopw [10] (fun v wr => ∃ (i : Nat) (R' : List Rg), i ≤ L.length ∧ v = .int .i64 i ∧ Hp wr I (256, N) (L.drop i) R' ∧ At wr w2.heap.size 31 #[.int .u32 256, .int .u32 N] ∧ wr.ownsRow B 31 2 (.slice ga L.length gc) L.length (rgv L) ∧ Fr [] w wr) (fun v _ => L.length - (intOf v).toNat)
      case atStart => exact ⟨0, R, by omega, rfl, by rw [List.drop_zero]; exact H6.out, X6.out, O6.out, F6.out⟩
      case round =>
        obtain ⟨i, R', hi, rfl, hh, hx, ho, hf⟩ := hrel
        have HH := Lib.hid hh
        have HX := Lib.hid hx
        have HF := Lib.hid hf
        have HO := Lib.hid ho
        clear hh hx hf ho H6 X6 O6 F6
        by_cases hil : i < L.length
        · have q1 : (i : Int) < (L.length : Int) := by omega
          obtain ⟨⟨r1, r2⟩, hr⟩ : ∃ r, L[i]? = some r := ⟨_, List.getElem?_eq_getElem hil⟩
          obtain ⟨g, c, hv, hbg, hrow⟩ := row_at HO.out (by intro e; rw [e] at hil; simp at hil)
          cases hv
          obtain ⟨k0, k1⟩ := hrow i _ hr
          have hdrop : L.drop i = (r1, r2) :: L.drop (i + 1) := by
            rw [List.drop_eq_getElem_cons hil]
            rw [List.getElem?_eq_getElem hil] at hr
            injection hr with hr
            rw [hr]
          have CF := free_yes (r := (r1, r2)) HH.out (by rw [hdrop]; simp)
          rw [hdrop] at CF
          rw [less_head (by rw [← hdrop]; exact HH.out.sl)] at CF
          have CF := Lib.hid CF
          obtain ⟨M, hM⟩ : ∃ M, L.length = M := ⟨_, rfl⟩
          have HMM := Lib.hid hM
          have hMb : M ≤ 1000000 := by omega
          rw [hM] at q1 hil ⊢
          rw [hM] at HO
          clear hrow hr hdrop hM
          go_wp2_with fail
          refine (CF.out).mono ?_
          rintro e w7 ⟨rfl, h7, hf7⟩
          have H7 := Lib.hid h7
          have X7 := Lib.hid (HX.out.fr hf7 (fun hk => by have := HG.out _ hk; omega))
          have F7 := Lib.hid (HF.out.trans hf7 (fun k hk => .inr (HGw.out k hk)))
          have O7 := Lib.hid (own_fr HO.out hf7 (fun g' hg' hk => by have a1 := (HO.out.lt g' hg').1; have a2 := HLT.out _ hk; omega))
          clear h7 hf7
          go_wp2
          go_roundw
          case rel => exact ⟨i + 1, _, by omega, by go_num, H7.out, X7.out, O7.out, F7.out⟩
          case measure =>
            simp [intOf]; omega
        · obtain rfl : i = L.length := by omega
          have HH2 := Lib.hid (show Hp wr I (256, N) [] R' by have := HH.out; rwa [List.drop_length] at this)
          clear HH HO hil
          have CR := Lib.hid (rest_any HH2.out)
          go_wp2_with fail
          refine (CR.out).mono ?_
          rintro e w8 ⟨vr, rfl, hor, hf8⟩
          have H8 := Lib.hid (HH2.out.fr0 hf8)
          have X8 := Lib.hid (HX.out.fr hf8 (by simp))
          have F8 := Lib.hid (HF.out.trans0 hf8)
          obtain ⟨B2, hB2⟩ : ∃ B2, wr.heap.size = B2 := ⟨_, rfl⟩
          have HLT2 := Lib.hid HH2.out.lt
          rw [hB2] at HLT2 hor
          have O8 := Lib.hid hor
          have hRb := HH2.out.room.2.2.2.1
          obtain ⟨ga2, gc2, rfl, _⟩ := own_slice hor
          clear hor hf8 CR HX HF hB2 HH2
          obtain ⟨wq, rfl⟩ : ∃ wq : World, wq = wr := ⟨_, rfl⟩
          go_wp2_with fail
          go_loopw [12] (fun v wr => ∃ (i : Nat), i ≤ R'.length ∧ v = .int .i64 i ∧ Hp wr I (256, N) [] (R'.drop i) ∧ At wr w2.heap.size 31 #[.int .u32 256, .int .u32 N] ∧ wr.ownsRow B2 31 2 (.slice ga2 R'.length gc2) R'.length (rgv R') ∧ Fr [] w wr) (fun v _ => R'.length - (intOf v).toNat)
          case atStart => exact ⟨0, by omega, rfl, by rw [List.drop_zero]; exact H8.out, X8.out, O8.out, F8.out⟩
          case round =>
            obtain ⟨i, hi, rfl, hh, hx, ho, hf⟩ := hrel
            have HH := Lib.hid hh
            have HX := Lib.hid hx
            have HF := Lib.hid hf
            have HO := Lib.hid ho
            clear hh hx hf ho H8 X8 O8 F8
            by_cases hil : i < R'.length
            · have q1 : (i : Int) < (R'.length : Int) := by omega
              obtain ⟨⟨r1, r2⟩, hr⟩ : ∃ r, R'[i]? = some r := ⟨_, List.getElem?_eq_getElem hil⟩
              obtain ⟨g, c, hv, hbg, hrow⟩ := row_at HO.out (by intro e; rw [e] at hil; simp at hil)
              cases hv
              obtain ⟨k0, k1⟩ := hrow i _ hr
              have hdrop : R'.drop i = (r1, r2) :: R'.drop (i + 1) := by
                rw [List.drop_eq_getElem_cons hil]
                rw [List.getElem?_eq_getElem hil] at hr
                injection hr with hr
                rw [hr]
              have CF := release_yes (r := (r1, r2)) HH.out (by rw [hdrop]; simp)
              rw [hdrop] at CF
              rw [less_head (by rw [← hdrop]; exact HH.out.sr)] at CF
              have CF := Lib.hid CF
              obtain ⟨M, hM⟩ : ∃ M, R'.length = M := ⟨_, rfl⟩
              have hMb : M ≤ 1000000 := by omega
              rw [hM] at q1 hil ⊢
              rw [hM] at HO
              clear hrow hr hdrop hM
              go_wp2_with fail
              refine (CF.out).mono ?_
              rintro e w7 ⟨rfl, h7, hf7⟩
              have H7 := Lib.hid h7
              have X7 := Lib.hid (HX.out.fr hf7 (fun hk => by have := HG.out _ hk; omega))
              have F7 := Lib.hid (HF.out.trans hf7 (fun k hk => .inr (HGw.out k hk)))
              have O7 := Lib.hid (own_fr HO.out hf7 (fun g' hg' hk => by have a1 := (HO.out.lt g' hg').1; have a2 := HLT2.out _ hk; omega))
              clear h7 hf7
              go_wp2
              go_roundw
              case rel => exact ⟨i + 1, by omega, by go_num, H7.out, X7.out, O7.out, F7.out⟩
              case measure => simp [intOf]; omega
            · obtain rfl : i = R'.length := by omega
              have HH2 := Lib.hid (show Hp wr I (256, N) [] [] by have := HH.out; rwa [List.drop_length] at this)
              have x1 := HX.out.cell 1
              have x0 := HX.out.cell 0
              simp only [List.getElem?_toArray, List.getElem?_cons_zero, List.getElem?_cons_succ] at x0 x1
              have CM := Lib.hid (malloc_is HH2.out (HT.out.fr HF.out (by simp)) (size := N) (by omega) HM.out)
              clear HH HO hil
              go_wp2_with fail
              refine (CM.out).mono ?_
              rintro e w9 ⟨rfl, h9, hf9⟩
              simp only [rv, Option.getD_some]
              have X9 := Lib.hid (HX.out.fr hf9 (fun hk => by have := HG.out _ hk; omega))
              have F9 := Lib.hid (HF.out.trans hf9 (fun k hk => .inr (HGw.out k hk)))
              have H9 := Lib.hid h9
              clear h9 hf9 CM x0 x1
              obtain ⟨w10, hw10⟩ : ∃ W, w9.alloc (.cells #[.int .u32 256, .int .u32 N] 31) = W := ⟨_, rfl⟩
              have hfa : Fr [] w9 w10 := by rw [← hw10]; exact (by repeat (first | exact Fr.refl _ _ | assumption | refine Fr.trans0 ?_ (by assumption) | refine Fr.drewN ?_ _ | refine Fr.alloc ?_ _ | refine Fr.drew ?_))
              have Y := Lib.hid (show At w10 w9.heap.size 31 #[.int .u32 256, .int .u32 N] by rw [← hw10]; exact At.new _ _ _)
              have H10 := Lib.hid (H9.out.fr0 hfa)
              have X10 := Lib.hid (X9.out.fr hfa (by simp))
              have F10 := Lib.hid (F9.out.trans0 hfa)
              have CV := Lib.hid (live_len H10.out 1 rfl)
              clear hfa
              go_wp2_with fail
              refine (CV.out).mono ?_
              rintro e w11 ⟨ga3, gc3, rfl, h11, hf11⟩
              have Y11 := Lib.hid (Y.out.fr hf11 (by simp))
              have X11 := Lib.hid (X10.out.fr hf11 (by simp))
              have F11 := Lib.hid (F10.out.trans0 hf11)
              have CR2 := Lib.hid (rest_len h11 0 rfl)
              clear h11 hf11
              go_wp2_with fail
              refine (CR2.out).mono ?_
              rintro e w12 ⟨ga4, gc4, rfl, h12, hf12⟩
              have Y12 := Lib.hid (Y11.out.fr hf12 (by simp))
              have X12 := Lib.hid (X11.out.fr hf12 (by simp))
              have F12 := Lib.hid (F11.out.trans0 hf12)
              have CRM := room_any h12.h
              rw [show roomP (256, N) (insO [] (some (256, N)) ++ []) = 0 from HR.out] at CRM
              have CRM := Lib.hid CRM
              have y0 := Y12.out.cell 0
              have y1 := Y12.out.cell 1
              have x0 := X12.out.cell 0
              have x1 := X12.out.cell 1
              simp only [List.getElem?_toArray, List.getElem?_cons_zero, List.getElem?_cons_succ] at x0 x1 y0 y1
              clear h12 hf12
              go_wp2_with fail
              refine (CRM.out).mono ?_
              rintro e w13 ⟨rfl, hf13⟩
              have F13 := Lib.hid (F12.out.trans0 hf13)
              clear hf13
              go_wp2
              go_ret
              exact ⟨rfl, F13.out⟩
theorem walk (a0 : Int) (w0 : (Lit.int .u8 a0).wf = true) (a1 : Option Addr) (len1 cap1 : Nat) (z1 : List Int) (w : World) (w1 : Ints .u8 w a1 len1 z1) (hT : Tab32 w) :
    Calls Tryd.prog 5 #[.int .u8 a0, .slice a1 len1 cap1] w fun e w' => e = .returned (.bool true) ∧ Fr [] w w' := by
  have hb0 := bounds_u8 w0
  obtain ⟨h1, h2, h3, h4⟩ := w1
  rcases h4 with h4 | ⟨b, off, h5, h6, h7⟩
  · exact walk0 (a0 % 20).toNat (by omega) a0 hb0.1 hb0.2 (by omega) a1 0 0 len1 cap1 w hT (.inl h4) h1 (fun i hi => by omega)
  · refine walk0 (a0 % 20).toNat (by omega) a0 hb0.1 hb0.2 (by omega) a1 b off len1 cap1 w hT (.inr h5) h1 (fun i hi => ?_)
    have hz := bounds_u8 (h3 (z1.getD i 0) (by
      rw [List.getD_eq_getElem?_getD, List.getElem?_eq_getElem (by rw [h2]; exact hi)]
      exact List.getElem_mem _))
    exact ⟨(z1.getD i 0).toNat, by rw [h7 i hi, Int.toNat_of_nonneg hz.1], by omega⟩
theorem laidOut : laidOutB Tryd.prog = true := by kernel_rfl
set_option maxRecDepth 100000 in
theorem lifted (os : Os) (started : os.Started) (H : Type) (enc : TypeId × Value → H) :
    ReturnsInHanded {} Tryd.checked os 5 .any (fun w args => (Rows.heapAgainSpec.pre enc Tryd.prog Tryd.f5 [] false w args ∧ laidMetH Tryd.prog laidL w) ∧ sizedMet enc Tryd.prog Tryd.f5 (OpenSpec.ofChange Rows.heapAgainSpec) false w args) (Rows.heapAgainSpec.post enc Tryd.prog Tryd.f5 false true false false) := by
  refine returnsInHanded_of_change_and (C := Tryd.checked) (X := fun w _ => laidMetH Tryd.prog laidL w) (fun _ _ _ hh h => h.of_heap hh) own started (by kernel_rfl) Tryd.func5
    (ChangeSpec.witness_at (enc := enc) (C := Tryd.checked) (os := os) (X := fun w _ => laidMetH Tryd.prog laidL w) false (laidWorld os) #[.int .u8 0, .slice none 0 0] 8 rfl (by kernel_rfl) (by kernel_rfl) (by kernel_rfl) (by kernel_rfl) (by kernel_rfl) (laidWorld_met os _)) ?_
  intro W base args ds gs before hval0 hW _ _ hL _
  have hT := tab_of_laid hL
  have hval : ∀ (j : Nat) t v, Tryd.f5.params[j]? = some t → args[j]? = some v → Value.okWide Tryd.prog W .any base t v := hval0
  have hW' := hW
  obtain ⟨p, q, hA0, hV, rfl, hfz, hnd⟩ := hW
  have hA : DataW.TrodAll enc Tryd.prog W 0 (fun _ => true) true Tryd.f5.params.toList args.toList ds p := hA0
  rw [Tryd.params5] at hA hval
  obtain ⟨v0, vs0, d0, ds0, p0, q0, hargs, rfl, rfl, h0, r0⟩ := trodAll_cons hA
  obtain ⟨v1, vs1, d1, ds1, p1, q1, rfl, rfl, rfl, h1, r1⟩ := trodAll_cons r0
  obtain ⟨rfl, rfl, rfl⟩ := trodAll_nil r1
  obtain rfl : args = #[v0, v1] := by cases args; simp_all
  obtain ⟨rfl, rfl⟩ := trodVars_none hV
  obtain ⟨a0, rfl, rfl, rfl, w0⟩ := open_int Tryd.underlying5 (hval 0 5 v0 rfl rfl) h0
  obtain ⟨a1, len1, cap1, rfl⟩ := okWide_slice Tryd.underlying22 (hval 1 22 v1 rfl rfl)
  have k1 := h1
  have lt1 : ∀ x ∈ p1, x.block < W.heap.size := by obtain ⟨m, hm⟩ := k1; exact DataW.trod_lt m _ _ _ hm
  obtain ⟨z1, w1⟩ : ∃ zs, Ints .u8 W a1 len1 zs := by
    obtain ⟨fuel, hf⟩ := h1
    rcases open_ints Tryd.underlying22 Tryd.underlying5 (by kernel_rfl) hf with ⟨hcs, _⟩ | ⟨x, l, c, zs, hcs, _, hl, hm, hz, _, hcell, hwz⟩
    · simp [Value.cells] at hcs
      obtain ⟨rfl, rfl, rfl⟩ := hcs
      exact ⟨[], Ints.nil _⟩
    · simp [Value.cells] at hcs
      obtain ⟨rfl, rfl, rfl⟩ := hcs
      exact ⟨zs.take len1, Ints.of hl hm (by simpa using hz) hcell hwz⟩
  clear hA0 hval0
  refine (walk a0 w0 a1 len1 cap1 z1 W w1 hT).mono fun e W' ⟨he, hg⟩ => ?_
  subst he
  have bel := hg.below
  exact ⟨_, rfl, _, _, _, [], _, [], hW', trodAll_mk1 (shut_bool Tryd.underlying4 _), (trodAll_cons_mk (shut_int Tryd.underlying5 w0) (trodAll_cons_mk (Below.trod laidOut (by kernel_rfl) (of_decide_eq_true (by kernel_rfl)) k1 bel lt1) trodAll_mk0)), rfl, bel.frame _, fun h => by cases h⟩
theorem over : Rows.heapAgainRow.holds Tryd.pinned (OpenSpec.ofChange Rows.heapAgainSpec) :=
  OpenClaim.holds_of_wide 5 Tryd.f5 rfl rfl rfl rfl rfl rfl rfl ⟨rfl, rfl, rfl, rfl, rfl⟩ rfl rfl rfl rfl rfl (by kernel_rfl) Tryd.func5 (by kernel_rfl)
    (of_decide_eq_true (by kernel_rfl)) (by unfold Func.isWrapper; first | (rw [if_pos (by decide +kernel)]; kernel_rfl) | (rw [if_neg (by decide +kernel)]; exact ⟨rfl, rfl⟩))
    (fun os started H enc _ => lifted os started H enc)
set_option maxRecDepth 100000 in
/-- The card, tied. -/
theorem proved : Rows.HeapAgainCardSaid :=
  Claim7.holds_tied_plain_at .later [] [.data] true (true, "8ce21f2ef25034e41947e6acf6b6718bb579e8dab5a546fffb3a11b6bc30a79c") true
    over (fun _ h => by cases h) (by kernel_rfl) (fun _ h => by cases h) heapAgain_row_tie rfl ⟨rfl, rfl⟩ (by kernel_rfl) rfl
    (fun f fn hf hfn => by
      obtain rfl : f = 5 := Option.some.inj ((show Tryd.prog.funcNamed "fallow/fallowlaw14.HeapAgain" = some 5 by kernel_rfl).symm.trans hf) |>.symm
      obtain rfl : fn = Tryd.f5 := (Option.some.inj (Tryd.func5.symm.trans hfn)).symm
      exact ⟨by kernel_rfl, fun j t ht => by
        have hm : t ∈ Tryd.f5.params.toList := by simpa using Array.mem_of_getElem? ht
        have hall : (Tryd.f5.params.toList.all fun u => !Tryd.prog.wantsStandIn u) = true := by kernel_rfl
        exact (show Tryd.prog.wantsStandIn t = false by simpa using List.all_eq_true.1 hall t hm)⟩)
    (by kernel_rfl)
end heapAgain
end Go.Proofs.YtdbpmojblgmhdaaDoor
