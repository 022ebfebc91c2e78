/-
  AuditHistory: the faults of a history, and what a hart has told, as the document says. No condition.
-/



import Derived.Test.YtkbdoiefgmbikaaRHist
import Derived.Test.YtkbdoiefgmbikaaROuts
import Derived.Test.YtkbdoiefgmbikaaIn
import Derived.Test.YtkbdoiefgmbikaaCmp
import Derived.Deep.CutBlock
import Derived.Deep.DeepCutAuto
import Derived.BigRegion
set_option linter.unusedVariables false
namespace Go.Proofs.Ytkbdoiefgmbikaa
open Go.ChangeShapes Go.WideShapes Go.ChangeAt Go.RowKit
namespace auditHistory
set_option maxRecDepth 100000 in
theorem ev_eq (e : Ev) (w : World) : (Op.equalIn 10000 41 (.agg (evl e).toArray) (.agg (evl e).toArray)).run Try.prog w = .ok true w := by
  have u1 := Try.underlying25
  have u2 := Try.underlying3
  have u3 := Try.underlying39
  have u4 := Try.underlying27
  have a1 := Try.isAgg25
  have a2 := Try.isAgg3
  have a3 := Try.isAgg39
  have a4 := Try.isAgg27
  have z1 := Try.sizeOf25
  have z2 := Try.sizeOf3
  have z3 := Try.sizeOf39
  have z4 := Try.sizeOf27
  have hS : Try.prog.underlying 41 = some (.struct (Try.prog.fieldsOf 41)) := by kernel_rfl
  have hR := reg_eq (e.a : Int) (e.s : Int) e.a e.s
  rw [show (10000 : Nat) = 9999 + 1 from rfl, run_equalIn_struct w 9999 41 _ _ hS (by kernel_rfl)]
  simp only [Program.fieldsOf, Try.underlying41]
  unfold evl
  go_simp
set_option maxHeartbeats 8000000 in
set_option maxRecDepth 100000 in
theorem walk (cs : List Value) (x : Option Addr) (len cap : Nat) (z : Int) (wz : (Lit.int .i64 z).wf = true) (w : World) (wR : Fits [.i .u32, .i .u32] cs) (wE : Elems w x len [.i .i64, .i .i64, .i .u32, .i .u64, .i .u32, .i .u32] ∧ len ≤ cap ∧ cap ≤ maxLen ∧ (x = none → len = 0 ∧ cap = 0)) :
    Calls Try.prog 8 #[.agg cs.toArray, .slice x len cap, .int .i64 z] w fun e w' => e = .returned (.bool true) ∧ Fr [] w w' := by
  obtain ⟨i0, hi, hz0, hz1, hz2⟩ := info_parts infoEvZ
  obtain ⟨ha, hs, rfl, b1, b2⟩ := fitsR wR
  obtain ⟨hE, hlc, hcm, hnn⟩ := wE
  obtain ⟨L0, hL0, hok0, hin0⟩ := open_evs hE
  obtain ⟨m, hm⟩ : ∃ m, min len 60 = m := ⟨_, rfl⟩
  have hml : m ≤ len ∧ m ≤ 60 := by omega
  have hmc : m ≤ cap := by omega
  unfold maxLen at hcm
  have HIR := Lib.hid (show (Try.prog.info? 27).map (·.size) = some 2 by kernel_rfl)
  have A1 := Lib.hid (At.new w 27 #[.int .u32 ha, .int .u32 hs])
  have F1 := Lib.hid (show Fr [] w (w.alloc (.cells #[.int .u32 ha, .int .u32 hs] 27)) from (by repeat (first | exact Fr.refl _ _ | assumption | refine Fr.trans0 ?_ (by assumption) | refine Fr.drewN ?_ _ | refine Fr.alloc ?_ _ | refine Fr.drew ?_)))
  obtain ⟨L, hLL⟩ : ∃ L, L0.take m = L := ⟨_, rfl⟩
  have hlen : L.length = m := by rw [← hLL, List.length_take]; omega
  have hok : ∀ e ∈ L, e.Ok := fun e he => hok0 e (by rw [← hLL] at he; exact List.mem_of_mem_take he)
  have hin : EvIn w x L := by rw [← hLL]; exact hin0.take m
  have hbd : ∀ e ∈ L, e.a < 4294967296 ∧ e.s < 4294967296 := fun e he => by have := hok e he; exact ⟨this.1, this.2.1⟩
  have heq := (his_eq ha hs L 0 rx0 inv0 (by rw [toS0]; exact good0) hbd).1
  rw [toS0] at heq
  have hH := Lib.hid fun W a' c' (hW : EvIn W a' L) => hist_any W ha hs b1 b2 a' c' L hW hok (by omega)
  have hH2 := Lib.hid fun W (hW : Fr [] w W) => rhist_any W ha hs b1 b2 x cap L (hin.fr0 hW) hok (by omega)
  have hO := Lib.hid fun W a' c' (hW : EvIn W a' L) => outs_any W a' c' z L hW (by omega)
  have hO2 := Lib.hid fun W (hW : Fr [] w W) => routs_any W x cap z L (hin.fr0 hW) (by omega)
  obtain ⟨F, hFF⟩ : ∃ F, hisF ha hs L 0 rx0 = F := ⟨_, rfl⟩
  rw [heq, hFF] at hH
  rw [hFF] at hH2
  have hFl := hisF_len ha hs L 0 rx0
  rw [hFF, hlen] at hFl
  obtain ⟨T, hT⟩ : ∃ T, ots z L = T := ⟨_, rfl⟩
  rw [hT] at hO hO2
  have hTl := ots_len z L
  rw [hT, hlen] at hTl
  rw [hlen] at hH hH2 hO hO2
  have HN := Lib.hid hlen
  have HIN := Lib.hid hin
  have HNN := Lib.hid hnn
  clear heq hLL hlen hok hin hFF hT hE hok0 hin0 wR hL0 hbd hnn wz
  go_enter Try.func8, Try.ntmps8
  go_upto_region 1 with (fail)
  obtain ⟨w1, hw1⟩ : ∃ W, w.alloc (.cells #[.int .u32 ha, .int .u32 hs] 27) = W := ⟨_, rfl⟩
  have A1 := A1.out
  have F1 := F1.out
  rw [hw1] at A1 F1 ⊢
  clear hw1
  have A1 := Lib.hid A1
  have F1 := Lib.hid F1
  have hwl := A1.out.lt
  go_cut [1] (fun s wx => s = .slice x m cap ∧ wx = w1)
  case first =>
    by_cases h60 : len ≤ 60
    · obtain rfl : m = len := by omega
      have h60I : ¬ (60 : Int) < (m : Int) := by omega
      go_wp2_with fail
      all_goals go_meet
      all_goals first | exact ⟨rfl, rfl⟩ | omega
    · obtain rfl : m = 60 := by omega
      have h60I : (60 : Int) < (len : Int) := by omega
      go_wp2_with fail
      all_goals go_meet
      all_goals first | exact ⟨rfl, rfl⟩ | omega
  clear hm
  obtain ⟨rfl, rfl⟩ := hcut
  obtain ⟨w2, rfl⟩ : ∃ W : World, W = wc := ⟨_, rfl⟩
  go_upto_region 3 with (fail)
  go_cut [7] (fun s wx => ∃ (ia : Option Addr) (ic : Nat), s = .slice ia m ic ∧ wx.ownsRow w2.heap.size 41 6 (.slice ia m ic) m (L.flatMap evl) ∧ Fr [] w2 wx)
  case first =>
    cases x with
    | none =>
      obtain ⟨rfl, rfl⟩ := HNN.out rfl
      obtain rfl : m = 0 := by omega
      have hLe : L = [] := List.eq_nil_of_length_eq_zero HN.out
      go_wp2_with fail
      go_meet
      exact ⟨_, _, rfl, by rw [hLe]; exact World.ownsRow_nil _ _ _ _, Fr.refl _ _⟩
    | some ad =>
      have hcell : ∀ j u, (L.flatMap evl)[j]? = some u → w2.cell? (ad.add j) = some u := fun j u hu => by
        rcases HIN.out.fr0 F1.out with h | ⟨b, off, e, hb, hc⟩
        · rw [h] at hu; simp at hu
        · injection e with e
          subst e
          have hjl := (List.getElem?_eq_some_iff.1 hu).1
          rw [fm_len evl 6 (fun _ => rfl)] at hjl
          obtain ⟨ee, hee⟩ : ∃ ee, L[j / 6]? = some ee := ⟨_, List.getElem?_eq_getElem (by omega)⟩
          have h1 := fm_get evl 6 (fun _ => rfl) L (j / 6) ee (j % 6) hee (Nat.mod_lt _ (by omega))
          rw [show j / 6 * 6 + j % 6 = j by omega, hu] at h1
          have h2 := hc (j / 6) ee hee (j % 6) u h1.symm
          rw [Go.WideShapes.add_plain] at h2 ⊢
          rw [show off + j = off + j / 6 * 6 + j % 6 by omega]
          exact h2
      have HCE := Lib.hid hcell
      have HC1 := Lib.hid (show ∀ u ∈ L.flatMap evl, u.oneCell' = true from fun u hu => by
        obtain ⟨e, _, he⟩ := List.mem_flatMap.1 hu
        simp [evl] at he
        rcases he with rfl | rfl | rfl | rfl | rfl | rfl <;> rfl)
      have HCL := Lib.hid (show (L.flatMap evl).length = m * 6 by rw [fm_len evl 6 (fun _ => rfl), HN.out])
      clear hcell
      go_wp2_with (at_builtin; refine wpList_append_own_at _ rfl (.tmp 18) (.tmp 19) 36 rfl w2.heap.size 41 i0 (.agg #[.int .i64 0, .int .i64 0, .int .u32 0, .int .u64 0, .int .u32 0, .int .u32 0]) 6 40 Try.underlying36 hi hz0 hz1 hz2 rfl (by omega) (.slice none 0 0) 0 [] rfl (World.ownsRow_nil _ _ _ _) ad m cap (L.flatMap evl) rfl HCL.out HCE.out HC1.out (by unfold maxLen; omega) (by omega) (by omega) ?_; intro v1 w7 hown7 hg7 hnil7 hat7)
      go_meet
      rw [Nat.zero_add, List.nil_append] at hown7
      obtain ⟨ia, ic, rfl, _⟩ := own_slice hown7
      exact ⟨_, _, rfl, hown7, Fr.grown hg7⟩
  obtain ⟨ia, ic, rfl, hv, hfv⟩ := hcut
  obtain ⟨w3, rfl⟩ : ∃ W : World, W = wc := ⟨_, rfl⟩
  have hrv := own_rows evl 6 (fun _ => rfl) (show w3.ownsRow w2.heap.size 41 6 (.slice ia m ic) L.length (L.flatMap evl) by rw [HN.out]; exact hv)
  obtain ⟨ia', ic', e', hir⟩ := hrv
  injection e' with e1 e2 e3
  clear e2
  subst e1 e3
  have F3 := Lib.hid (F1.out.trans0 hfv)
  have A3 := Lib.hid (A1.out.fr hfv (by simp))
  have IR := Lib.hid hir
  clear hv hfv hir
  go_wp2_with (refine wpList_load_at rfl 27 (.tmp 3) rfl ⟨w.heap.size, 0, none⟩ rfl [.int .u32 ha, .int .u32 hs] _ (A3.out.two 0 _ _ rfl rfl) Try.underlying27 rfl HIR.out ?_)
  refine (hH.out _ _ _ (rows_ev IR.out)).mono ?_
  rintro e w4 ⟨v1, rfl, ho1, hf4⟩
  obtain ⟨fa, fc, rfl, R1⟩ := own_faults ho1
  have F4 := Lib.hid (F3.out.trans0 hf4)
  have A4 := Lib.hid (A3.out.fr hf4 (by simp))
  have I4 := Lib.hid (IR.out.fr0 hf4)
  have R1 := Lib.hid R1
  clear ho1 hf4
  go_wp2_with fail
  refine (hO.out _ _ _ (rows_ev I4.out)).mono ?_
  rintro e w5 ⟨v2, rfl, ho2, hf5⟩
  have hq2 := own_rows (fun (n : Nat) => [Value.int .u32 (n : Int)]) 1 (fun _ => rfl) (show w5.ownsRow w4.heap.size 25 1 v2 T.length (T.flatMap fun (n : Nat) => [Value.int .u32 (n : Int)]) by rw [← wds_fm]; exact ho2)
  obtain ⟨oa, oc, rfl, hor⟩ := hq2
  have F5 := Lib.hid (F4.out.trans0 hf5)
  have A5 := Lib.hid (A4.out.fr hf5 (by simp))
  have I5 := Lib.hid (I4.out.fr0 hf5)
  have R5 := Lib.hid (RowsAt.fr0 R1.out hf5)
  have O5 := Lib.hid hor
  clear ho2 hf5 hor
  go_wp2_with fail
  refine (hO2.out _ F5.out).mono ?_
  rintro e w6 ⟨v3, rfl, ho3, hf6⟩
  have hq3 := own_rows (fun (n : Nat) => [Value.int .u32 (n : Int)]) 1 (fun _ => rfl) (show w6.ownsRow w5.heap.size 25 1 v3 T.length (T.flatMap fun (n : Nat) => [Value.int .u32 (n : Int)]) by rw [← wds_fm]; exact ho3)
  obtain ⟨ra, rc, rfl, hrr⟩ := hq3
  have F6 := Lib.hid (F5.out.trans0 hf6)
  have A6 := Lib.hid (A5.out.fr hf6 (by simp))
  have I6 := Lib.hid (I5.out.fr0 hf6)
  have R6 := Lib.hid (RowsAt.fr0 R5.out hf6)
  have O6 := Lib.hid (O5.out.fr0 hf6)
  have Q6 := Lib.hid hrr
  clear ho3 hf6 hrr
  obtain ⟨t, ht⟩ : ∃ t, T.length = t := ⟨_, rfl⟩
  have HTT := Lib.hid ht
  rw [ht] at hTl ⊢
  clear ht
  go_wp2_with fail
  obtain ⟨wo, rfl⟩ : ∃ W : World, W = w6 := ⟨_, rfl⟩
  go_loopw [11] (fun i wr => ∃ k : Nat, k ≤ t ∧ i = .int .i64 k ∧ Fr [] wo wr) (fun i _ => t - (intOf i).toNat)
  case atStart => exact ⟨0, by omega, rfl, Fr.refl _ _⟩
  case round =>
    obtain ⟨k, hk, rfl, hf⟩ := hrel
    have FR := Lib.hid hf
    clear hf
    by_cases hlt : k < t
    · obtain ⟨u, huk⟩ : ∃ u, T[k]? = some u := ⟨_, List.getElem?_eq_getElem (by rw [HTT.out]; exact hlt)⟩
      obtain ⟨b, off, rfl, hb, hc⟩ := nowhere (O6.out.fr0 FR.out) (by intro e; have := congrArg List.length e; simp at this; have := HTT.out; subst T; simp at huk)
      obtain ⟨b2, off2, rfl, hb2, hc2⟩ := nowhere (Q6.out.fr0 FR.out) (by intro e; have := congrArg List.length e; simp at this; have := HTT.out; subst T; simp at huk)
      have c0 := RowsAt.cell hc (k := k) (by rw [List.getElem?_map, huk]; rfl) 0 rfl
      have c1 := RowsAt.cell hc2 (k := k) (by rw [List.getElem?_map, huk]; rfl) 0 rfl
      rw [Nat.mul_one, Nat.add_zero] at c0 c1
      have hkI : (k : Int) < (t : Int) := by omega
      clear hc hc2 huk
      go_upto_region 11 with (fail)
      go_region
      go_wp2_with fail
      go_roundw
      case rel => exact ⟨k + 1, by omega, by go_num, FR.out.drew⟩
      case measure => simp [intOf]; omega
    · obtain rfl : k = t := by omega
      have F7 := Lib.hid (F6.out.trans0 FR.out)
      have A7 := Lib.hid (A6.out.fr FR.out (by simp))
      have I7 := Lib.hid (I6.out.fr0 FR.out)
      have R7 := Lib.hid (RowsAt.fr0 R6.out FR.out)
      clear FR F6 A6 I6 R6 O6 Q6
      obtain ⟨wq, hwq⟩ : ∃ W : World, W = wr := ⟨_, rfl⟩
      subst hwq
      go_wp2_with fail
      go_loopw [12] (fun i wr => ∃ k : Nat, k ≤ m ∧ i = .int .i64 k ∧ Fr [] wq wr) (fun i _ => m - (intOf i).toNat)
      case atStart => exact ⟨0, by omega, rfl, Fr.refl _ _⟩
      case round =>
        obtain ⟨k, hk, rfl, hf⟩ := hrel
        have FR := Lib.hid hf
        clear hf
        by_cases hlt : k < m
        · obtain ⟨e, hek⟩ : ∃ e, L[k]? = some e := ⟨_, List.getElem?_eq_getElem (by rw [HN.out]; exact hlt)⟩
          obtain ⟨b, off, rfl, hb, hc⟩ := nowhere (I7.out.fr0 FR.out) (by intro e; have := congrArg List.length e; simp at this; subst L; simp at hek)
          rcases (HIN.out.fr0 (F7.out.trans0 FR.out)) with h0 | ⟨b2, off2, rfl, hb2, hc2⟩
          · rw [h0] at hek; cases hek
          have HC := Lib.hid (hc k (evl e) (by rw [List.getElem?_map, hek]; rfl))
          have HC2 := Lib.hid (hc2 k e hek)
          have hkI : (k : Int) < (m : Int) := by omega
          clear hc hc2 hek
          unfold evl at HC HC2
          go_upto_region 16 with (fail)
          refine wp_region_L (fun W => Fr [] wr W) [] (by kernel_rfl) (Fr.refl _ _).drew (fun hHeld => ?_)
          refine wpAnyL_take (i := 0) (v := ?_) rfl (by kernel_rfl) (fun _ _ _ h => h) (Or.inl ⟨by rfl, ?_⟩) (by assumption) ?_; rotate_left; (focus (intro w hSw; skip; go_simp; (try with_reducible rfl))); (try (refine wpAnyL_norm (by simp only [Act.put, List.setIfInBounds_toArray, List.set_cons_zero, List.set_cons_succ]; rfl) ?_))
          refine wpAnyL_take (i := 1) (v := ?_) rfl (by kernel_rfl) (fun _ _ _ h => h) (Or.inl ⟨by rfl, ?_⟩) (by assumption) ?_; rotate_left; (focus (intro w hSw; skip; go_simp; (try with_reducible rfl))); (try (refine wpAnyL_norm (by simp only [Act.put, List.setIfInBounds_toArray, List.set_cons_zero, List.set_cons_succ]; rfl) ?_))
          refine wpAnyL_take (i := 2) (v := ?_) rfl (by kernel_rfl) (fun _ _ _ h => h) (Or.inl ⟨by rfl, ?_⟩) (by assumption) ?_; rotate_left; (focus (intro w hSw; skip; go_simp; (try with_reducible rfl))); (try (refine wpAnyL_norm (by simp only [Act.put, List.setIfInBounds_toArray, List.set_cons_zero, List.set_cons_succ]; rfl) ?_))
          refine wpAnyL_take (i := 3) rfl (by kernel_rfl) (fun _ _ _ h => h) (yields_load_at 41 (.tmp 58) rfl ⟨b, off + k * 6, none⟩ rfl [.int .i64 e.kind, .int .i64 e.hart, .int .u32 e.val, .int .u64 e.num, .int .u32 e.a, .int .u32 e.s] _ (fun W hW j v hv => by have := HC.out j v hv; rw [Go.WideShapes.add_plain] at this ⊢; rw [hW.cell hb (by simp)]; exact this) Try.underlying41 rfl infoEv rfl) (by assumption) ?_; (try (refine wpAnyL_norm (by simp only [Act.put, List.setIfInBounds_toArray, List.set_cons_zero, List.set_cons_succ]; rfl) ?_))
          refine wpAnyL_take (i := 4) (v := ?_) rfl (by kernel_rfl) (fun _ _ _ h => h) (Or.inl ⟨by rfl, ?_⟩) (by assumption) ?_; rotate_left; (focus (intro w hSw; skip; go_simp; (try with_reducible rfl))); (try (refine wpAnyL_norm (by simp only [Act.put, List.setIfInBounds_toArray, List.set_cons_zero, List.set_cons_succ]; rfl) ?_))
          refine wpAnyL_take (i := 5) (v := ?_) rfl (by kernel_rfl) (fun _ _ _ h => h) (Or.inl ⟨by rfl, ?_⟩) (by assumption) ?_; rotate_left; (focus (intro w hSw; skip; go_simp; (try with_reducible rfl))); (try (refine wpAnyL_norm (by simp only [Act.put, List.setIfInBounds_toArray, List.set_cons_zero, List.set_cons_succ]; rfl) ?_))
          refine wpAnyL_take (i := 6) (v := ?_) rfl (by kernel_rfl) (fun _ _ _ h => h) (Or.inl ⟨by rfl, ?_⟩) (by assumption) ?_; rotate_left; (focus (intro w hSw; skip; go_simp; (try with_reducible rfl))); (try (refine wpAnyL_norm (by simp only [Act.put, List.setIfInBounds_toArray, List.set_cons_zero, List.set_cons_succ]; rfl) ?_))
          refine wpAnyL_take (i := 7) rfl (by kernel_rfl) (fun _ _ _ h => h) (yields_load_at 41 (.tmp 62) rfl ⟨b2, off2 + k * 6, none⟩ rfl [.int .i64 e.kind, .int .i64 e.hart, .int .u32 e.val, .int .u64 e.num, .int .u32 e.a, .int .u32 e.s] _ (fun W hW j v hv => by have := HC2.out j v hv; rw [Go.WideShapes.add_plain] at this ⊢; rw [hW.cell hb2 (by simp)]; exact this) Try.underlying41 rfl infoEv rfl) (by assumption) ?_; (try (refine wpAnyL_norm (by simp only [Act.put, List.setIfInBounds_toArray, List.set_cons_zero, List.set_cons_succ]; rfl) ?_))
          refine wpAnyL_take (i := 8) (v := .bool false) rfl (by kernel_rfl) (fun _ _ _ h => h) (Or.inl ⟨by rfl, ?_⟩) (by assumption) ?_
          focus
            intro w hSw
            go_simp
            (try with_reducible rfl)
          (try (refine wpAnyL_norm (by simp only [Act.put, List.setIfInBounds_toArray, List.set_cons_zero, List.set_cons_succ]; rfl) ?_))
          refine wpAnyL_done (by kernel_rfl) ?_ _
          have F9 := Lib.hid (FR.out.trans0 hHeld)
          go_wp2_with fail
          go_roundw
          case rel => exact ⟨k + 1, by omega, by go_num, F9.out⟩
          case measure => simp [intOf]; omega
        · obtain rfl : k = m := by omega
          have F8 := Lib.hid (F7.out.trans0 FR.out)
          have A8 := Lib.hid (A7.out.fr FR.out (by simp))
          have R8 := Lib.hid (RowsAt.fr0 R7.out FR.out)
          go_wp2_with (refine wpList_load_at rfl 27 (.tmp 3) rfl ⟨w.heap.size, 0, none⟩ rfl [.int .u32 ha, .int .u32 hs] _ (A8.out.two 0 _ _ rfl rfl) Try.underlying27 rfl HIR.out ?_)
          refine (hH2.out _ F8.out).mono ?_
          rintro e w9 ⟨v5, rfl, ho5, hf9⟩
          obtain ⟨ga, gc, rfl, R9⟩ := own_faults ho5
          have F9 := Lib.hid (F8.out.trans0 hf9)
          have C := Lib.hid (faults_any w9 fa ga fc gc F F (RowsAt.fr0 R8.out hf9) R9 (by omega) (by omega))
          rw [decide_eq_true rfl] at C
          clear ho5 hf9 R9
          go_wp2_with fail
          refine (C.out).mono ?_
          rintro e wA ⟨rfl, hfA⟩
          have FA := Lib.hid (F9.out.trans0 hfA)
          clear hfA
          go_wp2_with fail
          refine (works_any _).mono ?_
          rintro e wB ⟨rfl, hfB⟩
          go_wp2_with fail
          go_ret
          exact ⟨rfl, FA.out.trans0 hfB⟩
theorem laidOut : laidOutB Try.prog = true := by kernel_rfl
set_option maxRecDepth 100000 in
theorem lifted (os : Os) (started : os.Started) (H : Type) (enc : TypeId × Value → H) :
    ReturnsInHanded {} Try.checked os 8 .any (Rows.auditHistorySpec.pre6 enc Try.prog Try.f8 Rows.auditHistoryRow.domain false) (Rows.auditHistorySpec.post enc Try.prog Try.f8 false true false false) := by
  refine returnsInHanded_of_change (C := Try.checked) own started (by kernel_rfl) Try.func8
    (ChangeSpec.witness6 (enc := enc) (C := Try.checked) false ⟨#[], #[.agg #[.int .u32 0, .int .u32 0], .slice none 0 0, .int .i64 0], []⟩ 8 (by kernel_rfl) (by kernel_rfl) (by kernel_rfl) (by kernel_rfl)) ?_
  intro W base args ds gs before hval0 hW hcnd _
  have hval : ∀ (j : Nat) t v, Try.f8.params[j]? = some t → args[j]? = some v → Value.okWide Try.prog W .any base t v := hval0
  have hW' := hW
  obtain ⟨p, q, hA0, hV, rfl, hfz, hnd⟩ := hW
  have hA : DataW.TrodAll enc Try.prog W 0 (fun _ => true) true Try.f8.params.toList args.toList ds p := hA0
  rw [Try.params8] at hA hval
  obtain ⟨v0, vs0, d0, ds0, p0, q0, hargs, rfl, rfl, h0, r0⟩ := trodAll_cons hA
  obtain ⟨v1, vs1, d1, ds1, p1, q1, rfl, rfl, rfl, h1, r1⟩ := trodAll_cons r0
  obtain ⟨v2, vs2, d2, ds2, p2, q2, rfl, rfl, rfl, h2, r2⟩ := trodAll_cons r1
  obtain ⟨rfl, rfl, rfl⟩ := trodAll_nil r2
  obtain rfl : args = #[v0, v1, v2] := by cases args; simp_all
  obtain ⟨rfl, rfl⟩ := trodVars_none hV
  have k0 := h0
  have lt0 : ∀ x ∈ p0, x.block < W.heap.size := by obtain ⟨m, hm⟩ := k0; exact DataW.trod_lt m _ _ _ hm
  obtain ⟨cs0, rfl, w0⟩ := open_flat (n := 20) (by kernel_rfl : flat Try.prog 20 27 = some [.i .u32, .i .u32]) (by kernel_rfl) (hval 0 27 v0 rfl rfl) h0
  obtain ⟨a1, len1, cap1, rfl⟩ := okWide_slice Try.underlying36 (hval 1 36 v1 rfl rfl)
  have k1 := h1
  have lt1 : ∀ x ∈ p1, x.block < W.heap.size := by obtain ⟨m, hm⟩ := k1; exact DataW.trod_lt m _ _ _ hm
  have w1 : Elems W a1 len1 [.i .i64, .i .i64, .i .u32, .i .u64, .i .u32, .i .u32] ∧ len1 ≤ cap1 ∧ cap1 ≤ maxLen ∧ (a1 = none → len1 = 0 ∧ cap1 = 0) := by
    obtain ⟨fuel, hf⟩ := h1
    exact open_elemsc (n := 20) Try.underlying36 (by kernel_rfl : flat Try.prog 20 41 = some [.i .i64, .i .i64, .i .u32, .i .u64, .i .u32, .i .u32]) (by kernel_rfl) (by decide) hf
  obtain ⟨a2, rfl, rfl, rfl, w2⟩ := open_int Try.underlying3 (hval 2 3 v2 rfl rfl) h2
  clear hA0 hval0
  refine (walk cs0 a1 len1 cap1 a2 w2 W w0 w1).mono fun e W' ⟨he, hg⟩ => ?_
  subst he
  have bel := hg.below
  exact ⟨_, rfl, _, _, _, [], _, [], hW', trodAll_mk1 (shut_bool Try.underlying4 _), (trodAll_cons_mk (Below.trod laidOut (by kernel_rfl) (of_decide_eq_true (by kernel_rfl)) k0 bel lt0) (trodAll_cons_mk (Below.trod laidOut (by kernel_rfl) (of_decide_eq_true (by kernel_rfl)) k1 bel lt1) (trodAll_cons_mk (shut_int Try.underlying3 w2) trodAll_mk0))), rfl, bel.frame _, fun h => by cases h⟩
theorem over : Rows.auditHistoryRow.holds Try.pinned (OpenSpec.ofChange Rows.auditHistorySpec) :=
  OpenClaim.holds_of_wide 8 Try.f8 rfl rfl rfl rfl rfl rfl rfl ⟨rfl, rfl, rfl, rfl, rfl⟩ rfl rfl rfl rfl rfl (by kernel_rfl) Try.func8 (by kernel_rfl)
    (of_decide_eq_true (by kernel_rfl)) (by unfold Func.isWrapper; first | (rw [if_pos (by decide +kernel)]; kernel_rfl) | (rw [if_neg (by decide +kernel)]; exact ⟨rfl, rfl⟩))
    (fun os started H enc _ => lifted os started H enc)
/-- The statement, proved. -/
theorem proved : Rows.AuditHistorySaid :=
  over
end auditHistory
end Go.Proofs.Ytkbdoiefgmbikaa
