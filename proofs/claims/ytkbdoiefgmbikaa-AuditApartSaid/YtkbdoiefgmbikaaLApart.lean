/-
  AuditApart: where a history has no faults, what is handed out overlaps nothing that lives or rests, and is released only in a sweep that began behind its being freed. No condition.
-/



import Derived.Test.YtkbdoiefgmbikaaIn
import Derived.Deep.CutBlock
import Derived.Deep.DeepCutAuto
import Derived.BigRegion
set_option linter.unusedVariables false
namespace Go.Proofs.Ytkbdoiefgmbikaa
open Go.ChangeShapes Go.WideShapes Go.ChangeAt Go.RowKit
namespace auditApart
set_option maxHeartbeats 8000000 in
set_option maxRecDepth 100000 in
theorem walk (cs : List Value) (x : Option Addr) (len cap : Nat) (w : World) (wR : Fits [.i .u32, .i .u32] cs) (wE : Elems w x len [.i .i64, .i .i64, .i .u32, .i .u64, .i .u32, .i .u32] ∧ len ≤ cap ∧ cap ≤ maxLen ∧ (x = none → len = 0 ∧ cap = 0)) :
    Calls Try.prog 4 #[.agg cs.toArray, .slice x len cap] w fun e w' => e = .returned (.bool true) ∧ Fr [] w w' := by
  obtain ⟨ha, hs, rfl, b1, b2⟩ := fitsR wR
  obtain ⟨hE, hlc, hcm, hnn⟩ := wE
  obtain ⟨L0, hL0, hok0, hin0⟩ := open_evs hE
  obtain ⟨m, hm⟩ : ∃ m, min len 30 = m := ⟨_, rfl⟩
  have hml : m ≤ len ∧ m ≤ 30 := by omega
  have hmc : m ≤ cap := by omega
  unfold maxLen at hcm
  have HIR := Lib.hid (show (Try.prog.info? 27).map (·.size) = some 2 by kernel_rfl)
  go_enter Try.func4, Try.ntmps4
  go_wp2_with fail
  refine (works_any _).mono ?_
  rintro e w1 ⟨rfl, hf1⟩
  have F1 := Lib.hid ((Fr.refl [] w).alloc (.cells #[.int .u32 ha, .int .u32 hs] 27) |>.trans0 hf1)
  have A1 := Lib.hid ((At.new w 27 #[.int .u32 ha, .int .u32 hs]).fr hf1 (by simp))
  clear hf1
  go_upto_region 3 with (fail)
  go_cut [1] (fun s wx => s = .slice x m cap ∧ wx = w1)
  case first =>
    by_cases h60 : len ≤ 30
    · obtain rfl : m = len := by omega
      have h60I : ¬ (30 : Int) < (m : Int) := by omega
      go_wp2_with fail
      all_goals go_meet
      all_goals first | exact ⟨rfl, rfl⟩ | omega
    · obtain rfl : m = 30 := by omega
      have h60I : (30 : Int) < (len : Int) := by omega
      go_wp2_with fail
      all_goals go_meet
      all_goals first | exact ⟨rfl, rfl⟩ | omega
  obtain ⟨rfl, rfl⟩ := hcut
  obtain ⟨w2, rfl⟩ : ∃ W : World, W = wc := ⟨_, rfl⟩
  obtain ⟨L, hLL⟩ : ∃ L, L0.take m = L := ⟨_, rfl⟩
  have hlen : L.length = m := by rw [← hLL, List.length_take]; omega
  have hok : ∀ e ∈ L, e.Ok := fun e he => hok0 e (by rw [← hLL] at he; exact List.mem_of_mem_take he)
  have hin : EvIn w x L := by rw [← hLL]; exact hin0.take m
  have hF1 := hist_any w2 ha hs b1 b2 x cap L (hin.fr0 F1.out) hok (by omega)
  rw [hlen] at hF1
  have HF1 := Lib.hid hF1
  have HN := Lib.hid hlen
  have HOK := Lib.hid hok
  have HIN := Lib.hid hin
  clear hlen hok hin hLL hF1 hE hok0 hin0 wR hL0 hm
  go_wp2_with (refine wpList_load_at rfl 27 (.tmp 2) rfl ⟨w.heap.size, 0, none⟩ rfl [.int .u32 ha, .int .u32 hs] _ (A1.out.two 0 _ _ rfl rfl) Try.underlying27 rfl HIR.out ?_)
  refine (HF1.out).mono ?_
  rintro e w3 ⟨v1, rfl, ho1, hf3⟩
  obtain ⟨va, vc, rfl, hva⟩ := own_slice ho1
  have F3 := Lib.hid (F1.out.trans0 hf3)
  clear ho1 hf3 HF1 A1 F1
  obtain ⟨F, hFF⟩ : ∃ F, histF ha hs L 0 sx0 = F := ⟨_, rfl⟩
  have HFF := Lib.hid hFF
  rw [hFF] at hva ⊢
  clear hFF
  by_cases hF0 : F.length = 0
  rotate_left
  · have hFI : (0 : Int) < (F.length : Int) := by omega
    go_wp2_with fail
    go_ret
    exact ⟨by simp, F3.out⟩
  have hnil : F = [] := List.eq_nil_of_length_eq_zero hF0
  subst hnil
  clear hF0 hva
  go_wp2_with fail
  go_loopw [5] (fun i wr => ∃ k : Nat, k ≤ m ∧ i = .int .i64 k ∧ Fr [] w wr) (fun i _ => m - (intOf i).toNat)
  case atStart => exact ⟨0, by omega, rfl, F3.out⟩
  case round =>
    obtain ⟨k, hk, rfl, hf⟩ := hrel
    obtain ⟨wo, rfl⟩ : ∃ W : World, W = wr := ⟨_, rfl⟩
    have FR := Lib.hid hf
    clear hf F3
    by_cases hlt : k < m
    · obtain ⟨e, hek⟩ : ∃ e, L[k]? = some e := ⟨_, List.getElem?_eq_getElem (by rw [HN.out]; exact hlt)⟩
      rcases HIN.out with h0 | ⟨b, off, rfl, hb, hc⟩
      · rw [h0] at hek; cases hek
      have HC := Lib.hid fun W (hW : Fr [] w W) i e (hi : L[i]? = some e) j v (hv : (evl e)[j]? = some v) => show W.cell? ⟨b, off + i * 6 + j, none⟩ = some v from (hW.cell (a := ⟨b, off + i * 6 + j, none⟩) hb (by simp)).trans (by have := hc i e hi j v hv; rw [Go.WideShapes.add_plain] at this; exact this)
      have HEK := Lib.hid hek
      have c0 : wo.cell? ⟨b, off + k * 6, none⟩ = some (.int .i64 e.kind) := HC.out wo FR.out k e hek 0 _ rfl
      have hkI : (k : Int) < (m : Int) := by omega
      obtain ⟨B2, hB2⟩ : ∃ B, (e.kind != 2) = B := ⟨_, rfl⟩
      clear hc hek
      cases B2
      rotate_left
      · go_wp2_with fail
        go_roundw
        case rel => exact ⟨k + 1, by omega, by go_num, FR.out⟩
        case measure => simp [intOf]; omega
      have hk2 : e.kind = 2 := by simpa using hB2
      have h00 := no_fault HFF.out k e HEK.out
      rw [Nat.zero_add] at h00
      have hgk := good_at (ha := ha) (hs := hs) HOK.out k (by rw [HN.out]; omega)
      have hap0 := ap_start hgk hk2 h00
      rw [← hist_take HEK.out] at hap0
      have AP0 := Lib.hid hap0
      clear hk2 h00 hgk hap0
      go_wp2_with fail
      go_loopw [6, 7, 8, 9] (fun s6 s7 s8 i ws => ∃ (K : Nat) (fr rl bg : Int), k < K ∧ K ≤ m ∧ s6 = .int .i64 fr ∧ s7 = .int .i64 rl ∧ s8 = .int .i64 bg ∧ i = .int .i64 K ∧ Ap (histX ha hs (L.take K) 0 sx0) e.num e.a e.s fr rl bg ∧ Fr [] w ws) (fun _ _ _ i _ => m - (intOf i).toNat)
      case atStart => exact ⟨k + 1, -1, -1, -1, by omega, by omega, rfl, rfl, rfl, by go_num, AP0.out, FR.out⟩
      case round =>
        obtain ⟨K, fr, rl, bg, hkK, hK, rfl, rfl, rfl, rfl, hap, hf⟩ := hrel
        have FK := Lib.hid hf
        have AP := Lib.hid hap
        have q1 := hap.b1
        have q2 := hap.b2
        have q3 := hap.b3
        clear hap hf AP0
        by_cases hlt2 : K < m
        · obtain ⟨e2, hek2⟩ : ∃ e, L[K]? = some e := ⟨_, List.getElem?_eq_getElem (by rw [HN.out]; exact hlt2)⟩
          have HEK2 := Lib.hid hek2
          have d0 : wr.cell? ⟨b, off + K * 6, none⟩ = some (.int .i64 e2.kind) := HC.out wr FK.out K e2 hek2 0 _ rfl
          have h0 := no_fault HFF.out K e2 hek2
          rw [Nat.zero_add] at h0
          have hg := good_at (ha := ha) (hs := hs) HOK.out K (by rw [HN.out]; omega)
          have hnx := hist_take (ha := ha) (hs := hs) hek2
          have H0 := Lib.hid h0
          have HG := Lib.hid hg
          have HNX := Lib.hid hnx
          obtain ⟨SM, hSM⟩ : ∃ B, ((e2.num : Int) == (e.num : Int)) = B := ⟨_, rfl⟩
          have hSN : SM = true ↔ e2.num = e.num := by rw [← hSM, beq_iff_eq]; omega
          have HSN := Lib.hid hSN
          have hkKI : (K : Int) < (m : Int) := by omega
          clear hek2 h0 hg hnx hSN c0
          go_upto_region 14 with (fail)
          refine wp_region_L (fun W => Fr [] w W) [] (by kernel_rfl) FK.out.drew (fun hHeld => ?_)
          refine wpAnyL_take (i := 0) (v := ?_) rfl (by kernel_rfl) (fun _ _ _ h => h) (Or.inl ⟨by rfl, ?_⟩) (by assumption) ?_; rotate_left; (focus (intro w hSw; skip; go_simp; (try with_reducible rfl))); (try (refine wpAnyL_norm (by simp only [Act.put, List.setIfInBounds_toArray, List.set_cons_zero, List.set_cons_succ]; rfl) ?_))
          refine wpAnyL_take (i := 1) (v := ?_) rfl (by kernel_rfl) (fun _ _ _ h => h) (Or.inl ⟨by rfl, ?_⟩) (by assumption) ?_; rotate_left; (focus (intro w hSw; skip; go_simp; (try with_reducible rfl))); (try (refine wpAnyL_norm (by simp only [Act.put, List.setIfInBounds_toArray, List.set_cons_zero, List.set_cons_succ]; rfl) ?_))
          refine wpAnyL_take (i := 2) (v := ?_) rfl (by kernel_rfl) (fun _ _ _ h => h) (Or.inl ⟨by rfl, ?_⟩) (by assumption) ?_; rotate_left; (focus (intro w hSw; skip; go_simp; (try with_reducible rfl))); (try (refine wpAnyL_norm (by simp only [Act.put, List.setIfInBounds_toArray, List.set_cons_zero, List.set_cons_succ]; rfl) ?_))
          refine wpAnyL_take (i := 3) (v := ?_) rfl (by kernel_rfl) (fun _ _ _ h => h) (Or.inl ⟨by rfl, ?_⟩) (by assumption) ?_; rotate_left; (focus (intro w hSw; skip; go_simp; (try with_reducible rfl))); (try (refine wpAnyL_norm (by simp only [Act.put, List.setIfInBounds_toArray, List.set_cons_zero, List.set_cons_succ]; rfl) ?_))
          refine wpAnyL_take (i := 4) (v := ?_) rfl (by kernel_rfl) (fun _ _ _ h => h) (Or.inl ⟨by rfl, ?_⟩) (by assumption) ?_; rotate_left; (focus (intro w hSw; have c := HC.out _ hSw K e2 HEK2.out 3 _ rfl; go_simp; (try with_reducible rfl))); (try (refine wpAnyL_norm (by simp only [Act.put, List.setIfInBounds_toArray, List.set_cons_zero, List.set_cons_succ]; rfl) ?_))
          refine wpAnyL_take (i := 5) (v := ?_) rfl (by kernel_rfl) (fun _ _ _ h => h) (Or.inl ⟨by rfl, ?_⟩) (by assumption) ?_; rotate_left; (focus (intro w hSw; skip; go_simp; (try with_reducible rfl))); (try (refine wpAnyL_norm (by simp only [Act.put, List.setIfInBounds_toArray, List.set_cons_zero, List.set_cons_succ]; rfl) ?_))
          refine wpAnyL_take (i := 6) (v := ?_) rfl (by kernel_rfl) (fun _ _ _ h => h) (Or.inl ⟨by rfl, ?_⟩) (by assumption) ?_; rotate_left; (focus (intro w hSw; skip; go_simp; (try with_reducible rfl))); (try (refine wpAnyL_norm (by simp only [Act.put, List.setIfInBounds_toArray, List.set_cons_zero, List.set_cons_succ]; rfl) ?_))
          refine wpAnyL_take (i := 7) (v := ?_) rfl (by kernel_rfl) (fun _ _ _ h => h) (Or.inl ⟨by rfl, ?_⟩) (by assumption) ?_; rotate_left; (focus (intro w hSw; skip; go_simp; (try with_reducible rfl))); (try (refine wpAnyL_norm (by simp only [Act.put, List.setIfInBounds_toArray, List.set_cons_zero, List.set_cons_succ]; rfl) ?_))
          refine wpAnyL_take (i := 8) (v := ?_) rfl (by kernel_rfl) (fun _ _ _ h => h) (Or.inl ⟨by rfl, ?_⟩) (by assumption) ?_; rotate_left; (focus (intro w hSw; skip; go_simp; (try with_reducible rfl))); (try (refine wpAnyL_norm (by simp only [Act.put, List.setIfInBounds_toArray, List.set_cons_zero, List.set_cons_succ]; rfl) ?_))
          refine wpAnyL_take (i := 9) (v := ?_) rfl (by kernel_rfl) (fun _ _ _ h => h) (Or.inl ⟨by rfl, ?_⟩) (by assumption) ?_; rotate_left; (focus (intro w hSw; have c := HC.out _ hSw k e HEK.out 3 _ rfl; go_simp; (try with_reducible rfl))); (try (refine wpAnyL_norm (by simp only [Act.put, List.setIfInBounds_toArray, List.set_cons_zero, List.set_cons_succ]; rfl) ?_))
          refine wpAnyL_take (i := 10) (v := ?_) rfl (by kernel_rfl) (fun _ _ _ h => h) (Or.inl ⟨by rfl, ?_⟩) (by assumption) ?_; rotate_left; (focus (intro w hSw; skip; go_simp; (try with_reducible rfl))); (try (refine wpAnyL_norm (by simp only [Act.put, List.setIfInBounds_toArray, List.set_cons_zero, List.set_cons_succ]; rfl) ?_))
          refine wpAnyL_take (i := 11) (v := ?_) rfl (by kernel_rfl) (fun _ _ _ h => h) (Or.inl ⟨by rfl, ?_⟩) (by assumption) ?_; rotate_left; (focus (intro w hSw; skip; go_simp; (try with_reducible rfl))); (try (refine wpAnyL_norm (by simp only [Act.put, List.setIfInBounds_toArray, List.set_cons_zero, List.set_cons_succ]; rfl) ?_))
          refine wpAnyL_done (by kernel_rfl) ?_ _
          obtain ⟨B3, hB3⟩ : ∃ B, (e2.kind == 3) = B := ⟨_, rfl⟩
          obtain ⟨B6, hB6⟩ : ∃ B, (e2.kind == 6) = B := ⟨_, rfl⟩
          obtain ⟨B4, hB4⟩ : ∃ B, (e2.kind == 4) = B := ⟨_, rfl⟩
          obtain ⟨B2', hB2'⟩ : ∃ B, (e2.kind == 2) = B := ⟨_, rfl⟩
          clear hSM
          cases B3
          rotate_left
          · have hk3 : e2.kind = 3 := by simpa using hB3
            have hs3 := ap_free HG.out AP.out hk3 H0.out
            rw [← HNX.out] at hs3
            clear hk3
            cases SM
            · have hne : ¬ e2.num = e.num := fun hh => by have := HSN.out.2 hh; simp at this
              rw [if_neg hne] at hs3
              have APN := Lib.hid hs3.2
              clear hs3 hne
              go_wp2_with fail
              go_roundw
              case rel => exact ⟨K + 1, fr, rl, bg, by omega, by omega, rfl, rfl, rfl, by go_num, APN.out, hHeld⟩
              case measure => simp [intOf]; omega
            · have hne : e2.num = e.num := HSN.out.1 rfl
              rw [if_pos hne] at hs3
              have APN := Lib.hid hs3.2
              have hfr := hs3.1 hne
              have hfd : decide (0 ≤ fr) = false := by simp; omega
              clear hs3 hne
              go_wp2_with fail
              go_roundw
              case rel => exact ⟨K + 1, K, rl, bg, by omega, by omega, rfl, rfl, rfl, by go_num, APN.out, hHeld⟩
              case measure => simp [intOf]; omega
          cases B6
          rotate_left
          · have hk6 : e2.kind = 6 := by simpa using hB6
            have hs3 := ap_begin AP.out hk6 H0.out
            rw [← HNX.out] at hs3
            clear hk6
            obtain ⟨Bf, hBf⟩ : ∃ B, decide (0 ≤ fr) = B := ⟨_, rfl⟩
            cases Bf
            · rw [if_neg (by simpa using hBf)] at hs3
              have APN := Lib.hid hs3
              clear hs3
              go_wp2_with fail
              go_roundw
              case rel => exact ⟨K + 1, fr, rl, bg, by omega, by omega, rfl, rfl, rfl, by go_num, APN.out, hHeld⟩
              case measure => simp [intOf]; omega
            · rw [if_pos (by simpa using hBf)] at hs3
              have APN := Lib.hid hs3
              clear hs3
              go_wp2_with fail
              go_roundw
              case rel => exact ⟨K + 1, fr, rl, K, by omega, by omega, rfl, rfl, rfl, by go_num, APN.out, hHeld⟩
              case measure => simp [intOf]; omega
          cases B4
          rotate_left
          · have hk4 : e2.kind = 4 := by simpa using hB4
            have hs3 := ap_release HG.out AP.out hk4 H0.out
            rw [← HNX.out] at hs3
            clear hk4
            cases SM
            · have hne : ¬ e2.num = e.num := fun hh => by have := HSN.out.2 hh; simp at this
              rw [if_neg hne] at hs3
              have APN := Lib.hid hs3.2
              clear hs3 hne
              go_wp2_with fail
              go_roundw
              case rel => exact ⟨K + 1, fr, rl, bg, by omega, by omega, rfl, rfl, rfl, by go_num, APN.out, hHeld⟩
              case measure => simp [intOf]; omega
            · have hne : e2.num = e.num := HSN.out.1 rfl
              rw [if_pos hne] at hs3
              have APN := Lib.hid hs3.2
              obtain ⟨hf1, hf2, hf3⟩ := hs3.1 hne
              have g1 : decide (fr < 0) = false := by simp; omega
              have g2 : decide (0 ≤ rl) = false := by simp; omega
              have g3 : decide (bg < 0) = false := by simp; omega
              clear hs3 hne hf1 hf2 hf3
              go_wp2_with fail
              go_roundw
              case rel => exact ⟨K + 1, fr, K, bg, by omega, by omega, rfl, rfl, rfl, by go_num, APN.out, hHeld⟩
              case measure => simp [intOf]; omega
          cases B2'
          rotate_left
          · have hk2' : e2.kind = 2 := by simpa using hB2'
            obtain ⟨hs1, hs2, hs3⟩ := ap_grant HG.out AP.out hk2' H0.out
            rw [← HNX.out] at hs3
            have APN := Lib.hid hs3
            have HS2 := Lib.hid hs2
            have hSMf : SM = false := by cases SM with | false => rfl | true => exact absurd (HSN.out.1 rfl) hs1
            subst hSMf
            clear hs1 hs2 hs3 hk2'
            have r4 := HC.out wr FK.out k e HEK.out 4 _ rfl
            have r5 := HC.out wr FK.out k e HEK.out 5 _ rfl
            have s4 := HC.out wr FK.out K e2 HEK2.out 4 _ rfl
            have s5 := HC.out wr FK.out K e2 HEK2.out 5 _ rfl
            obtain ⟨he1, he2, _⟩ := HOK.out e (List.mem_of_getElem? HEK.out)
            obtain ⟨hg1, hg2, _⟩ := HOK.out e2 (List.mem_of_getElem? HEK2.out)
            have hw1 : IntKind.u64.wrap (e.a : Int) = (e.a : Int) := wu _ (by omega)
            have hw2 : IntKind.u64.wrap (e.s : Int) = (e.s : Int) := wu _ (by omega)
            have hw3 : IntKind.u64.wrap (e2.a : Int) = (e2.a : Int) := wu _ (by omega)
            have hw4 : IntKind.u64.wrap (e2.s : Int) = (e2.s : Int) := wu _ (by omega)
            have hw5 : IntKind.u64.wrap ((e.a : Int) + (e.s : Int)) = (e.a : Int) + (e.s : Int) := wu (e.a + e.s) (by omega)
            have hw6 : IntKind.u64.wrap ((e2.a : Int) + (e2.s : Int)) = (e2.a : Int) + (e2.s : Int) := wu (e2.a + e2.s) (by omega)
            have RW1 := Lib.hid fun W (hW : Fr [] w W) j v (hv : [Value.int .u32 (e.a : Int), .int .u32 (e.s : Int)][j]? = some v) => show W.cell? ((⟨b, off + k * 6 + 4, none⟩ : Addr).add j) = some v by
              rw [Go.WideShapes.add_plain, Nat.add_assoc]
              exact HC.out W hW k e HEK.out (4 + j) v (by match j, hv with | 0, hv => exact hv | 1, hv => exact hv)
            have RW2 := Lib.hid fun W (hW : Fr [] w W) j v (hv : [Value.int .u32 (e2.a : Int), .int .u32 (e2.s : Int)][j]? = some v) => show W.cell? ((⟨b, off + K * 6 + 4, none⟩ : Addr).add j) = some v by
              rw [Go.WideShapes.add_plain, Nat.add_assoc]
              exact HC.out W hW K e2 HEK2.out (4 + j) v (by match j, hv with | 0, hv => exact hv | 1, hv => exact hv)
            clear r4 r5 s4 s5
            go_upto_region 30 with (fail)
            go_cut [11, 12] (fun s11 s12 wx => ∃ p q, s11 = .pointer (some ⟨p, 0, none⟩) ∧ s12 = .pointer (some ⟨q, 0, none⟩) ∧ At wx p 27 #[.int .u32 e.a, .int .u32 e.s] ∧ At wx q 27 #[.int .u32 e2.a, .int .u32 e2.s] ∧ Fr [] w wx)
            case first =>
              refine wp_region_L (fun W => Fr [] w W) [] (by kernel_rfl) hHeld.drew (fun hHeld => ?_)
              refine wpAnyL_take (i := 0) (v := ?_) rfl (by kernel_rfl) (fun _ _ _ h => h) (Or.inl ⟨by rfl, ?_⟩) (by assumption) ?_; rotate_left; (focus (intro w hSw; skip; go_simp; (try with_reducible rfl))); (try (refine wpAnyL_norm (by simp only [Act.put, List.setIfInBounds_toArray, List.set_cons_zero, List.set_cons_succ]; rfl) ?_))
              refine wpAnyL_take (i := 1) (v := ?_) rfl (by kernel_rfl) (fun _ _ _ h => h) (Or.inl ⟨by rfl, ?_⟩) (by assumption) ?_; rotate_left; (focus (intro w hSw; skip; go_simp; (try with_reducible rfl))); (try (refine wpAnyL_norm (by simp only [Act.put, List.setIfInBounds_toArray, List.set_cons_zero, List.set_cons_succ]; rfl) ?_))
              refine wpAnyL_take (i := 2) (v := ?_) rfl (by kernel_rfl) (fun _ _ _ h => h) (Or.inl ⟨by rfl, ?_⟩) (by assumption) ?_; rotate_left; (focus (intro w hSw; skip; go_simp; (try with_reducible rfl))); (try (refine wpAnyL_norm (by simp only [Act.put, List.setIfInBounds_toArray, List.set_cons_zero, List.set_cons_succ]; rfl) ?_))
              refine wpAnyL_take (i := 3) (v := ?_) rfl (by kernel_rfl) (fun _ _ _ h => h) (Or.inl ⟨by rfl, ?_⟩) (by assumption) ?_; rotate_left; (focus (intro w hSw; skip; go_simp; (try with_reducible rfl))); (try (refine wpAnyL_norm (by simp only [Act.put, List.setIfInBounds_toArray, List.set_cons_zero, List.set_cons_succ]; rfl) ?_))
              refine wpAnyL_take (i := 4) rfl (by kernel_rfl) (fun _ _ _ h => h) (yields_load_at 27 (.tmp 98) rfl ⟨b, off + k * 6 + 4, none⟩ rfl [.int .u32 e.a, .int .u32 e.s] _ (fun W hW => RW1.out W hW) Try.underlying27 rfl HIR.out rfl) (by assumption) ?_; (try (refine wpAnyL_norm (by simp only [Act.put, List.setIfInBounds_toArray, List.set_cons_zero, List.set_cons_succ]; rfl) ?_))
              refine wpAnyL_take (i := 5) (v := ?_) rfl (by kernel_rfl) (fun _ _ _ h => h) (Or.inl ⟨by rfl, ?_⟩) (by assumption) ?_; rotate_left; (focus (intro w hSw; skip; go_simp; (try with_reducible rfl))); (try (refine wpAnyL_norm (by simp only [Act.put, List.setIfInBounds_toArray, List.set_cons_zero, List.set_cons_succ]; rfl) ?_))
              refine wpAnyL_take (i := 6) (v := ?_) rfl (by kernel_rfl) (fun _ _ _ h => h) (Or.inl ⟨by rfl, ?_⟩) (by assumption) ?_; rotate_left; (focus (intro w hSw; skip; go_simp; (try with_reducible rfl))); (try (refine wpAnyL_norm (by simp only [Act.put, List.setIfInBounds_toArray, List.set_cons_zero, List.set_cons_succ]; rfl) ?_))
              refine wpAnyL_take (i := 7) (v := ?_) rfl (by kernel_rfl) (fun _ _ _ h => h) (Or.inl ⟨by rfl, ?_⟩) (by assumption) ?_; rotate_left; (focus (intro w hSw; skip; go_simp; (try with_reducible rfl))); (try (refine wpAnyL_norm (by simp only [Act.put, List.setIfInBounds_toArray, List.set_cons_zero, List.set_cons_succ]; rfl) ?_))
              refine wpAnyL_take (i := 8) (v := ?_) rfl (by kernel_rfl) (fun _ _ _ h => h) (Or.inl ⟨by rfl, ?_⟩) (by assumption) ?_; rotate_left; (focus (intro w hSw; skip; go_simp; (try with_reducible rfl))); (try (refine wpAnyL_norm (by simp only [Act.put, List.setIfInBounds_toArray, List.set_cons_zero, List.set_cons_succ]; rfl) ?_))
              refine wpAnyL_take (i := 9) rfl (by kernel_rfl) (fun _ _ _ h => h) (yields_load_at 27 (.tmp 103) rfl ⟨b, off + K * 6 + 4, none⟩ rfl [.int .u32 e2.a, .int .u32 e2.s] _ (fun W hW => RW2.out W hW) Try.underlying27 rfl HIR.out rfl) (by assumption) ?_; (try (refine wpAnyL_norm (by simp only [Act.put, List.setIfInBounds_toArray, List.set_cons_zero, List.set_cons_succ]; rfl) ?_))
              have Z0 := At.new wr 27 #[.int .u32 0, .int .u32 0]
              have Z1 := Z0.old (.cells #[.int .u32 0, .int .u32 0] 27)
              have Z2 := At.new (wr.alloc (.cells #[.int .u32 0, .int .u32 0] 27)) 27 #[.int .u32 0, .int .u32 0]
              rw [World.size_alloc] at Z2
              have hsw := FK.out.size
              refine wpAnyL_ready (rs := [10, 11]) (by kernel_rfl) (by simp) ?_
              refine AllReadyL.cons rfl (fun K hK => ?_) (AllReadyL.cons rfl (fun K hK => ?_) AllReadyL.nil)
              · go_simp
                refine hK.out _ _ (fun _ => ((FK.out.alloc (.cells #[.int .u32 0, .int .u32 0] 27)).drew.drew)) (fun hHeld' => ?_); have hHeld := hHeld' (by decide); clear hHeld' hK K; (try (refine wpAnyL_norm (by simp only [Act.put, List.setIfInBounds_toArray, List.set_cons_zero, List.set_cons_succ]; rfl) ?_))
                refine wpAnyL_ready (rs := [11]) (by kernel_rfl) (by simp) ?_; refine AllReadyL.cons rfl (fun K hK => ?_) AllReadyL.nil
                go_simp
                refine hK.out _ _ (fun _ => (((FK.out.alloc (.cells #[.int .u32 0, .int .u32 0] 27)).alloc (.cells #[.int .u32 0, .int .u32 0] 27)).drew.drew)) (fun hHeld' => ?_); have hHeld := hHeld' (by decide); clear hHeld' hK K; (try (refine wpAnyL_norm (by simp only [Act.put, List.setIfInBounds_toArray, List.set_cons_zero, List.set_cons_succ]; rfl) ?_))
                refine wpAnyL_ready (rs := [12]) (by kernel_rfl) (by simp) ?_; refine AllReadyL.cons rfl (fun K hK => ?_) AllReadyL.nil
                refine wp_store_y 27 (.tmp 11) (.tmp 99) rfl wr.heap.size #[.int .u32 e.a, .int .u32 e.s] rfl rfl 27 #[.int .u32 0, .int .u32 0] (Z1.hp rfl) HIR.out rfl (by simp [Value.oneCell']) ?_
                intro w4 hA4 hF4
                refine hK.out _ _ (fun _ => hHeld.trans hF4 (by simp; omega)) (fun hHeld' => ?_); have hHeld := hHeld' (by decide); clear hHeld' hK K; (try (refine wpAnyL_norm (by simp only [Act.put, List.setIfInBounds_toArray, List.set_cons_zero, List.set_cons_succ]; rfl) ?_))
                refine wpAnyL_ready (rs := [13]) (by kernel_rfl) (by simp) ?_; refine AllReadyL.cons rfl (fun K hK => ?_) AllReadyL.nil
                refine wp_store_y 27 (.tmp 12) (.tmp 104) rfl (wr.heap.size + 1) #[.int .u32 e2.a, .int .u32 e2.s] rfl rfl 27 #[.int .u32 0, .int .u32 0] (Z2.frh hF4 rfl (by simp)) HIR.out rfl (by simp [Value.oneCell']) ?_
                intro w5 hA5 hF5
                refine hK.out _ _ (fun _ => hHeld.trans hF5 (by simp; omega)) (fun hHeld' => ?_); have hHeld := hHeld' (by decide); clear hHeld' hK K; (try (refine wpAnyL_norm (by simp only [Act.put, List.setIfInBounds_toArray, List.set_cons_zero, List.set_cons_succ]; rfl) ?_))
                refine wpAnyL_done (by kernel_rfl) ?_ _
                go_wp2_with fail
                go_meet
                exact ⟨_, _, rfl, rfl, hA4.fr hF5 (by simp), hA5, hHeld⟩
              · go_simp
                refine hK.out _ _ (fun _ => ((FK.out.alloc (.cells #[.int .u32 0, .int .u32 0] 27)).drew.drew)) (fun hHeld' => ?_); have hHeld := hHeld' (by decide); clear hHeld' hK K; (try (refine wpAnyL_norm (by simp only [Act.put, List.setIfInBounds_toArray, List.set_cons_zero, List.set_cons_succ]; rfl) ?_))
                refine wpAnyL_ready (rs := [10]) (by kernel_rfl) (by simp) ?_; refine AllReadyL.cons rfl (fun K hK => ?_) AllReadyL.nil
                go_simp
                refine hK.out _ _ (fun _ => (((FK.out.alloc (.cells #[.int .u32 0, .int .u32 0] 27)).alloc (.cells #[.int .u32 0, .int .u32 0] 27)).drew.drew)) (fun hHeld' => ?_); have hHeld := hHeld' (by decide); clear hHeld' hK K; (try (refine wpAnyL_norm (by simp only [Act.put, List.setIfInBounds_toArray, List.set_cons_zero, List.set_cons_succ]; rfl) ?_))
                refine wpAnyL_ready (rs := [12]) (by kernel_rfl) (by simp) ?_; refine AllReadyL.cons rfl (fun K hK => ?_) AllReadyL.nil
                refine wp_store_y 27 (.tmp 11) (.tmp 99) rfl (wr.heap.size + 1) #[.int .u32 e.a, .int .u32 e.s] rfl rfl 27 #[.int .u32 0, .int .u32 0] (Z2.hp rfl) HIR.out rfl (by simp [Value.oneCell']) ?_
                intro w4 hA4 hF4
                refine hK.out _ _ (fun _ => hHeld.trans hF4 (by simp; omega)) (fun hHeld' => ?_); have hHeld := hHeld' (by decide); clear hHeld' hK K; (try (refine wpAnyL_norm (by simp only [Act.put, List.setIfInBounds_toArray, List.set_cons_zero, List.set_cons_succ]; rfl) ?_))
                refine wpAnyL_ready (rs := [13]) (by kernel_rfl) (by simp) ?_; refine AllReadyL.cons rfl (fun K hK => ?_) AllReadyL.nil
                refine wp_store_y 27 (.tmp 12) (.tmp 104) rfl wr.heap.size #[.int .u32 e2.a, .int .u32 e2.s] rfl rfl 27 #[.int .u32 0, .int .u32 0] (Z1.frh hF4 rfl (by simp)) HIR.out rfl (by simp [Value.oneCell']) ?_
                intro w5 hA5 hF5
                refine hK.out _ _ (fun _ => hHeld.trans hF5 (by simp; omega)) (fun hHeld' => ?_); have hHeld := hHeld' (by decide); clear hHeld' hK K; (try (refine wpAnyL_norm (by simp only [Act.put, List.setIfInBounds_toArray, List.set_cons_zero, List.set_cons_succ]; rfl) ?_))
                refine wpAnyL_done (by kernel_rfl) ?_ _
                go_wp2_with fail
                go_meet
                exact ⟨_, _, rfl, rfl, hA4.fr hF5 (by simp), hA5, hHeld⟩
            obtain ⟨p, q, rfl, rfl, hp, hq, hfx⟩ := hcut
            obtain ⟨wx, rfl⟩ : ∃ W : World, W = wc := ⟨_, rfl⟩
            have p0 := hp.cell 0
            have p1 := hp.cell 1
            have q0 := hq.cell 0
            have q1 := hq.cell 1
            simp only [List.getElem?_toArray, List.getElem?_cons_zero, List.getElem?_cons_succ] at p0 p1 q0 q1
            have hHeld := hfx
            obtain ⟨MT, hMT⟩ : ∃ M, meetB e.a e.s e2.a e2.s = M := ⟨_, rfl⟩
            go_upto_region 31 with (fail)
            go_cut [13] (fun s wy => s = .bool MT ∧ wy = wx)
            case first =>
              have HMT := Lib.hid hMT
              clear hMT
              go_wp2_with fail
              all_goals go_meet
              all_goals
                refine ⟨?_, rfl⟩
                rw [← HMT.out]
                congr 1
                unfold meetB
                rw [decide_eq_decide]
                omega
            obtain ⟨rfl, rfl⟩ := hcut
            have HS3 := HS2.out
            rw [hMT] at HS3
            clear hMT p0 p1 q0 q1 hp hq
            cases MT
            · clear HS3
              go_wp2_with fail
              go_roundw
              case rel => exact ⟨K + 1, fr, rl, bg, by omega, by omega, rfl, rfl, rfl, by go_num, APN.out, hHeld⟩
              case measure => simp [intOf]; omega
            · have g2 : decide (rl < 0) = false := by
                simp only [decide_eq_false_iff_not]
                intro h
                have := HS3 h
                cases this
              clear HS3
              go_wp2_with fail
              go_roundw
              case rel => exact ⟨K + 1, fr, rl, bg, by omega, by omega, rfl, rfl, rfl, by go_num, APN.out, hHeld⟩
              case measure => simp [intOf]; omega
          have APN := Lib.hid (HNX.out ▸ ap_other (ha := ha) (hs := hs) (i := K) AP.out (by simpa using hB2') (by simpa using hB3) (by simpa using hB6) (by simpa using hB4))
          go_wp2_with fail
          go_roundw
          case rel => exact ⟨K + 1, fr, rl, bg, by omega, by omega, rfl, rfl, rfl, by go_num, APN.out, hHeld⟩
          case measure => simp [intOf]; omega
        · obtain rfl : K = m := by omega
          go_wp2_with fail
          go_roundw
          case rel => exact ⟨k + 1, by omega, by go_num, FK.out⟩
          case measure => simp [intOf]; omega
    · obtain rfl : k = m := by omega
      go_wp2_with fail
      go_ret
      exact ⟨rfl, FR.out⟩
theorem laidOut : laidOutB Try.prog = true := by kernel_rfl
set_option maxRecDepth 100000 in
theorem lifted (os : Os) (started : os.Started) (H : Type) (enc : TypeId × Value → H) :
    ReturnsInHanded {} Try.checked os 4 .any (Rows.auditApartSpec.pre6 enc Try.prog Try.f4 Rows.auditApartRow.domain false) (Rows.auditApartSpec.post enc Try.prog Try.f4 false true false false) := by
  refine returnsInHanded_of_change (C := Try.checked) own started (by kernel_rfl) Try.func4
    (ChangeSpec.witness6 (enc := enc) (C := Try.checked) false ⟨#[], #[.agg #[.int .u32 0, .int .u32 0], .slice none 0 0], []⟩ 8 (by kernel_rfl) (by kernel_rfl) (by kernel_rfl) (by kernel_rfl)) ?_
  intro W base args ds gs before hval0 hW hcnd _
  have hval : ∀ (j : Nat) t v, Try.f4.params[j]? = some t → args[j]? = some v → Value.okWide Try.prog W .any base t v := hval0
  have hW' := hW
  obtain ⟨p, q, hA0, hV, rfl, hfz, hnd⟩ := hW
  have hA : DataW.TrodAll enc Try.prog W 0 (fun _ => true) true Try.f4.params.toList args.toList ds p := hA0
  rw [Try.params4] at hA hval
  obtain ⟨v0, vs0, d0, ds0, p0, q0, hargs, rfl, rfl, h0, r0⟩ := trodAll_cons hA
  obtain ⟨v1, vs1, d1, ds1, p1, q1, rfl, rfl, rfl, h1, r1⟩ := trodAll_cons r0
  obtain ⟨rfl, rfl, rfl⟩ := trodAll_nil r1
  obtain rfl : args = #[v0, v1] := by cases args; simp_all
  obtain ⟨rfl, rfl⟩ := trodVars_none hV
  have k0 := h0
  have lt0 : ∀ x ∈ p0, x.block < W.heap.size := by obtain ⟨m, hm⟩ := k0; exact DataW.trod_lt m _ _ _ hm
  obtain ⟨cs0, rfl, w0⟩ := open_flat (n := 20) (by kernel_rfl : flat Try.prog 20 27 = some [.i .u32, .i .u32]) (by kernel_rfl) (hval 0 27 v0 rfl rfl) h0
  obtain ⟨a1, len1, cap1, rfl⟩ := okWide_slice Try.underlying36 (hval 1 36 v1 rfl rfl)
  have k1 := h1
  have lt1 : ∀ x ∈ p1, x.block < W.heap.size := by obtain ⟨m, hm⟩ := k1; exact DataW.trod_lt m _ _ _ hm
  have w1 : Elems W a1 len1 [.i .i64, .i .i64, .i .u32, .i .u64, .i .u32, .i .u32] ∧ len1 ≤ cap1 ∧ cap1 ≤ maxLen ∧ (a1 = none → len1 = 0 ∧ cap1 = 0) := by
    obtain ⟨fuel, hf⟩ := h1
    exact open_elemsc (n := 20) Try.underlying36 (by kernel_rfl : flat Try.prog 20 41 = some [.i .i64, .i .i64, .i .u32, .i .u64, .i .u32, .i .u32]) (by kernel_rfl) (by decide) hf
  clear hA0 hval0
  refine (walk cs0 a1 len1 cap1 W w0 w1).mono fun e W' ⟨he, hg⟩ => ?_
  subst he
  have bel := hg.below
  exact ⟨_, rfl, _, _, _, [], _, [], hW', trodAll_mk1 (shut_bool Try.underlying4 _), (trodAll_cons_mk (Below.trod laidOut (by kernel_rfl) (of_decide_eq_true (by kernel_rfl)) k0 bel lt0) (trodAll_cons_mk (Below.trod laidOut (by kernel_rfl) (of_decide_eq_true (by kernel_rfl)) k1 bel lt1) trodAll_mk0)), rfl, bel.frame _, fun h => by cases h⟩
theorem over : Rows.auditApartRow.holds Try.pinned (OpenSpec.ofChange Rows.auditApartSpec) :=
  OpenClaim.holds_of_wide 4 Try.f4 rfl rfl rfl rfl rfl rfl rfl ⟨rfl, rfl, rfl, rfl, rfl⟩ rfl rfl rfl rfl rfl (by kernel_rfl) Try.func4 (by kernel_rfl)
    (of_decide_eq_true (by kernel_rfl)) (by unfold Func.isWrapper; first | (rw [if_pos (by decide +kernel)]; kernel_rfl) | (rw [if_neg (by decide +kernel)]; exact ⟨rfl, rfl⟩))
    (fun os started H enc _ => lifted os started H enc)
/-- The statement, proved. -/
theorem proved : Rows.AuditApartSaid :=
  over
end auditApart
end Go.Proofs.Ytkbdoiefgmbikaa
