/-
  QuarantinePlays: a yard does what the reference says, step by step. No condition.
-/



import Derived.Test.YtflhpgfnffmimaaRCopy
import Derived.Test.YtflhpgfnffmimaaWorks
import Derived.Test.YtflhpgfnffmimaaArgs
import Derived.Deep.CutBlock
import Derived.Deep.DeepCutAuto
set_option linter.unusedVariables false
namespace Go.Proofs.Ytflhpgfnffmimaa
open Go.ChangeShapes Go.WideShapes Go.ChangeAt Go.RowKit
namespace quarantinePlays
theorem fits3 {k0 k1 k2 : IntKind} {cs : List Value} (h : Fits [.i k0, .i k1, .i k2] cs) : ∃ z0 z1 z2 : Int, cs = [.int k0 z0, .int k1 z1, .int k2 z2] ∧ (Lit.int k0 z0).wf = true ∧ (Lit.int k1 z1).wf = true ∧ (Lit.int k2 z2).wf = true := by
  obtain ⟨v0, c1, e0, ⟨z0, rfl, w0⟩, h1⟩ := h.cons
  obtain ⟨v1, c2, e1, ⟨z1, rfl, w1⟩, h2⟩ := h1.cons
  obtain ⟨v2, c3, e2, ⟨z2, rfl, w2⟩, h3⟩ := h2.cons
  rw [e2, h3.nil] at e1
  rw [e1] at e0
  exact ⟨z0, z1, z2, e0, w0, w1, w2⟩
theorem yields_load_row {P : Program} {ops : Array Oper} {S : World → Prop} {o : Oper} {a : Act} (ty : TypeId) (x : Operand) (ho : o.op = .load ty x) (g : Nat) (hx : a.eval x = .pointer (some ⟨g, 0, none⟩)) (t : TypeId) (cs : Array Value) (d : TypeDesc) (hg : ∀ W, S W → At W g t cs)
    (hu : P.underlying ty = some d) (hd : (match d with | .struct _ | .array _ _ => true | _ => false) = true) (hi : (P.info? ty).map (·.size) = some cs.size) (hw : Region.wanted o (yielded ops a.tmps) = true) : YieldsIf P ops S o (.agg cs) a := by
  have h := yields_load_at (S := S) ty x ho ⟨g, 0, none⟩ hx cs.toList d (fun W hW j v hv => by
    rw [Go.WideShapes.add_plain, Nat.zero_add, (hg W hW).cell]
    simpa using hv) hu hd (by simpa using hi) hw
  simpa using h
theorem hasP_lt (n : Nat) (f : Nat → Bool) (x : Nat) : hasP n f (x : Int) = (f (x / 16) && decide ((x : Int) < ((16 * n : Nat) : Int))) := by
  unfold hasP
  rw [show ((x : Int) / 16).toNat = x / 16 by omega, show ((x : Int) / 16) = ((x / 16 : Nat) : Int) by omega, Bool.and_comm]
  congr 1
  unfold inR
  rw [decide_eq_true (show (0 : Int) ≤ ((x / 16 : Nat) : Int) by omega), Bool.true_and]
  by_cases h : x < 16 * n
  · rw [decide_eq_true (by omega), decide_eq_true (by omega)]
  · rw [decide_eq_false (by omega), decide_eq_false (by omega)]
theorem walk_bad (b : Int) (hb : b < 0 ∨ 262144 < b ∨ ¬ b % 16 = 0) (a1 : Option Addr) (len1 cap1 : Nat) (w : World) :
    Calls Try.prog 5 #[.int .i64 b, .slice a1 len1 cap1] w fun e w' => e = .returned (.bool true) ∧ Fr [] w w' := by
  have C1 := Lib.hid (qnew_bad w b hb)
  have C2 := Lib.hid (rnew_bad w b hb)
  clear hb
  unfold ryc at C2
  go_enter Try.func5, Try.ntmps5
  go_wp2_with fail
  refine (C1.out).mono ?_
  rintro e w' ⟨rfl, rfl⟩
  go_wp2_with fail
  refine (C2.out).mono ?_
  rintro e w2 ⟨rfl, hf2⟩
  have F2 := Lib.hid (hf2.alloc (.cells #[.int .i64 0, .slice none 0 0, .slice none 0 0, .int .u64 0, .bool false] 45))
  clear hf2 C1 C2
  go_wp2_with fail
  go_loopw [8] (fun i wr => i = .int .i64 0 ∧ Fr [] w wr) (fun _ _ => 0)
  case atStart => exact ⟨rfl, F2.out⟩
  case round =>
    clear F2
    obtain ⟨rfl, hf⟩ := hrel
    have HF := Lib.hid hf
    clear hf
    by_cases h0 : 0 < len1
    · have h0i : (0 : Int) < (len1 : Int) := by omega
      have hd : decide ((0 : Int) < (len1 : Int)) = true := by simpa using h0i
      go_wp2_with fail
      refine (works_any _).mono ?_
      rintro e w3 ⟨rfl, hf3⟩
      go_wp2_with fail
      go_ret
      exact ⟨rfl, HF.out.trans0 hf3⟩
    · obtain rfl : len1 = 0 := by omega
      go_wp2_with fail
      refine (works_any _).mono ?_
      rintro e w3 ⟨rfl, hf3⟩
      go_wp2_with fail
      go_ret
      exact ⟨rfl, HF.out.trans0 hf3⟩
set_option maxHeartbeats 8000000 in
set_option maxRecDepth 100000 in
theorem walk_ok (n : Nat) (hn : n ≤ 16384) (b0 : Int) (hb0 : b0 = (16 * n : Nat)) (a1 : Option Addr) (len1 cap1 : Nat) (w : World) (w1 : Elems w a1 len1 [.i .i64, .i .u32, .i .u32]) :
    Calls Try.prog 5 #[.int .i64 b0, .slice a1 len1 cap1] w fun e w' => e = .returned (.bool true) ∧ Fr [] w w' := by
  obtain ⟨hlen, hrec⟩ := w1
  have Hrec := Lib.hid hrec
  have C1 := Lib.hid (new_m w n hn)
  have C2 := Lib.hid fun W => rnew_any W n hn
  rw [← hb0] at C1 C2
  have HB0 := Lib.hid hb0
  have hbi : 0 ≤ b0 ∧ b0 ≤ 262144 := by omega
  obtain ⟨hbi0, hbi1⟩ := hbi
  clear hrec hb0
  go_enter Try.func5, Try.ntmps5
  go_wp2_with fail
  refine (C1.out).mono ?_
  rintro e w1 ⟨y, s0, rfl, h0, hfo, -⟩
  have HY := Lib.hid h0
  have HFO := Lib.hid (foot_ltR h0)
  clear h0 hfo C1
  go_wp2_with fail
  refine (C2.out _).mono ?_
  rintro e w2 ⟨rfl, hf2⟩
  clear C2
  have A3 := At.new w2 45 (ryc b0 none 0 0 none 0 0 0 false)
  have F3 : Fr [] w1 (w2.alloc (.cells (ryc b0 none 0 0 none 0 0 0 false) 45)) := hf2.alloc _
  have Y3 := Lib.hid (HY.out.fr F3)
  have hq0 : w.heap.size ≤ w2.heap.size := by have := HY.out.f.size; have := hf2.size; omega
  have R3 : Hid (Rf (w2.alloc (.cells (ryc b0 none 0 0 none 0 0 0 false) 45)) s0 w2.heap.size n ⟨n, 0, false, [], []⟩ none 0 none 0) := Lib.hid ⟨by rw [← HB0.out]; exact A3, fun hk => (by have := HFO.out _ hk; have := hf2.size; omega), World.ownsRow_nil _ _ _ _, World.ownsRow_nil _ _ _ _, (fun g hg => by simp [Value.ownBlock] at hg), (fun g hg => by simp [Value.ownBlock] at hg)⟩
  unfold ryc at Y3 R3 ⊢
  obtain ⟨q, hq⟩ : ∃ q, w2.heap.size = q := ⟨_, rfl⟩
  rw [hq] at R3 hq0
  have HQ := Lib.hid hq
  clear A3 F3 hf2 HY HFO hq
  go_wp2_with fail
  rw [HQ.out]
  obtain ⟨w3, hw3⟩ : ∃ W, w2.alloc (.cells #[.int .i64 b0, .slice none 0 0, .slice none 0 0, .int .u64 ((0 : Nat) : Int), .bool false] 45) = W := ⟨_, rfl⟩
  rw [hw3] at Y3 R3
  clear HQ
  go_loopw [5, 8] (fun yv i wr => ∃ (k y : Nat) (m : MS) (s : YS) (wa la : Option Addr) (wc lc : Nat), k ≤ 40 ∧ k ≤ len1 ∧ yv = .pointer (some ⟨y, 0, none⟩) ∧ i = .int .i64 k ∧ m.n = n ∧ m.ep ≤ k ∧ Yw w wr y m s ∧ Rf wr s q n m wa wc la lc) (fun _ i _ => len1 - (intOf i).toNat)
  case atStart => exact ⟨0, y, _, s0, none, none, 0, 0, by omega, by omega, rfl, rfl, rfl, Nat.le_refl _, by first | exact Y3.out | (rw [← hw3] at Y3; exact Y3.out), by first | exact R3.out | (rw [← hw3] at R3; exact R3.out)⟩
  case round =>
    clear Y3 R3
    obtain ⟨k, y, m, s, wa, la, wc, lc, hk, hkl, rfl, rfl, hmn, hep, hy, hr⟩ := hrel
    have HY := Lib.hid hy
    have HR := Lib.hid hr
    have HMN := Lib.hid hmn
    clear hy hr hmn
    by_cases h1 : k < len1
    · by_cases h2 : k < 40
      · skip
        -- the step's fields: z0, A, S2
        obtain ⟨b, off, rfl, hb, hcells⟩ := Hrec.out.resolve_left (by omega)
        have hcellsAll := Lib.hid hcells
        obtain ⟨cs, hfit, hcs⟩ := hcells k h1
        obtain ⟨z0, z1, z2, rfl, hw0, hw1, hw2⟩ := fits3 hfit
        have hc0 := hcs 0 (by simp)
        have hc1 := hcs 1 (by simp)
        have hc2 := hcs 2 (by simp)
        simp only [List.length_cons, List.length_nil, List.getElem?_cons_zero, List.getElem?_cons_succ, Nat.zero_add, Nat.reduceAdd, Nat.add_zero] at hc0 hc1 hc2
        obtain ⟨bw10, bw11⟩ := bounds_u32 hw1
        obtain ⟨bw20, bw21⟩ := bounds_u32 hw2
        obtain ⟨A, rfl⟩ := Int.eq_ofNat_of_zero_le bw10
        obtain ⟨S2, rfl⟩ := Int.eq_ofNat_of_zero_le bw20
        have HC1 := Lib.hid hc1
        have HC2 := Lib.hid hc2
        have HB := Lib.hid hb
        have hbA : A < 4294967296 := by omega
        have hbS : S2 < 4294967296 := by omega
        clear hcs hcells hw0 hw1 hw2 hfit bw10 bw11 bw20 bw21
        have hc0' := (HY.out.f.cell (a := ⟨b, off + k * 3, none⟩) hb (by simp)).trans hc0
        obtain ⟨r0, hr0⟩ : ∃ r, z0.tmod 4 = r := ⟨_, rfl⟩
        have hr1 : -3 ≤ r0 ∧ r0 ≤ 3 := by
          have a1 := Int.tmod_lt_of_pos z0 (show (0 : Int) < 4 by omega)
          have a2 := Int.lt_tmod_of_pos z0 (show (0 : Int) < 4 by omega)
          omega
        obtain ⟨hr2, hr3⟩ := hr1
        have hr4 : 0 ≤ r0 + 4 := by omega
        obtain ⟨D, hD⟩ : ∃ D, (r0 + 4) % 4 = D := ⟨_, rfl⟩
        have hD2 : (r0 + 4).tmod 4 = D := by rw [Int.tmod_eq_emod_of_nonneg hr4]; exact hD
        have hD4 : D = 0 ∨ D = 1 ∨ D = 2 ∨ D = 3 := by omega
        clear hc0 hc1 hc2
        go_upto_block 2 with (fail)
        have hq0' := hq0
        go_cut [5, 9] (fun yv ok wx => ∃ (y' : Nat) (m' : MS) (s' : YS) (wa la : Option Addr) (wc lc : Nat), yv = .pointer (some ⟨y', 0, none⟩) ∧ ok = .bool true ∧ m'.n = n ∧ m'.ep ≤ k + 1 ∧ Yw w wx y' m' s' ∧ Rf wx s' q n m' wa wc la lc)
        case first =>
          obtain ⟨hG1, hG2, -, -, -, -, -⟩ := yw_good HY.out
          have HG1 := Lib.hid hG1
          have HG2 := Lib.hid hG2
          clear hG1 hG2 hr0 hr2 hr3 hr4 hD hD2 hc0'
          obtain ⟨RC, hRC⟩ : ∃ RC, ryc (16 * n : Nat) wa m.lw.length wc la m.lb.length lc m.ep m.un = RC := ⟨_, rfl⟩
          have HRC := Lib.hid hRC
          have HSZ := Lib.hid (show RC.size = 5 by rw [← hRC]; rfl)
          have HON := Lib.hid (show RC.all (·.oneCell') = true by rw [← hRC]; exact ryc_one _ _ _ _ _)
          have AR := Lib.hid HR.out.at_
          rw [hRC] at AR
          have HI := Lib.hid (show (Try.prog.info? 45).map (·.size) = some 5 by kernel_rfl)
          rcases hD4 with rfl | rfl | rfl | rfl
          · have CF := Lib.hid (free_m HY.out A S2 hbA hbS)
            have CR := Lib.hid fun W s' (hl : Rl W s' m wa wc la lc) (hs : ∀ k ∈ s'.foot, k < W.heap.size) => rfree_m W n m s' wa la wc lc hl hs hn HMN.out HG1.out HG2.out A S2 hbA hbS
            have HMN' : Hid ((mFree m A S2).n = n) := Lib.hid (by unfold mFree; split <;> exact HMN.out)
            have hep' : (mFree m A S2).ep ≤ k + 1 := by unfold mFree; split <;> exact Nat.le_succ_of_le hep
            obtain ⟨B, hB⟩ : ∃ B, frB m A S2 = B := ⟨_, rfl⟩
            obtain ⟨m', hm'⟩ : ∃ m', mFree m A S2 = m' := ⟨_, rfl⟩
            rw [hm'] at CF CR HMN' hep'
            rw [hB] at CF CR
            rw [hRC] at CR
            clear hRC hB hm'
            have k1 : wr.cell? ⟨b, off + k * 3 + 1, none⟩ = _ := (HY.out.f.cell (a := ⟨b, off + (k * 3 + 1), none⟩) hb (by simp)).trans HC1.out
            have k2 : wr.cell? ⟨b, off + k * 3 + 1 + 1, none⟩ = _ := (HY.out.f.cell (a := ⟨b, off + (k * 3 + 2), none⟩) hb (by simp)).trans HC2.out
            go_wp2_with fail
            refine (CF.out).mono ?_
            rintro e w4 ⟨rfl, s4, ht⟩
            have Y4 := Lib.hid ht.yw
            have R4 := Lib.hid (HR.out.turn ht)
            have AR4 := Lib.hid (AR.out.fr ht.f HR.out.nq)
            have HS4 := Lib.hid (foot_ltR ht.yw)
            clear ht CF HY HR AR k1 k2
            go_upto_region 16 with (fail)
            go_cut [11, 12] (fun g11 b12 wx => ∃ (g : Nat) (wa' la' : Option Addr) (wc' lc' : Nat), g11 = .pointer (some ⟨g, 0, none⟩) ∧ b12 = .bool B ∧ Rl wx s4 m' wa' wc' la' lc' ∧ Fr [] w4 wx ∧ At wx g 45 (ryc (16 * n : Nat) wa' m'.lw.length wc' la' m'.lb.length lc' m'.ep m'.un) ∧ w4.heap.size ≤ g)
            case first =>
              refine wp_region_L (fun W => Fr [] w4 W) [] (by kernel_rfl) ((Fr.refl _ _).drew) (fun hHeld => ?_)
              refine wpAnyL_take (i := 0) rfl (by kernel_rfl) (fun _ _ _ h => h) (yields_load_row 45 (.tmp 6) rfl q rfl 45 RC _ (fun W h => AR4.out.fr h (by simp)) Try.underlying45 rfl (by rw [HSZ.out]; exact HI.out) rfl) (by assumption) ?_; (try (refine wpAnyL_norm (by simp only [Act.put, List.setIfInBounds_toArray, List.set_cons_zero, List.set_cons_succ]; rfl) ?_))
              refine wpAnyL_take (i := 1) (v := ?_) rfl (by kernel_rfl) (fun _ _ _ h => h) (Or.inl ⟨by rfl, ?_⟩) (by assumption) ?_; rotate_left; (focus (intro w hSw; skip; go_simp; (try with_reducible rfl))); (try (refine wpAnyL_norm (by simp only [Act.put, List.setIfInBounds_toArray, List.set_cons_zero, List.set_cons_succ]; rfl) ?_))
              refine wpAnyL_take (i := 2) (v := ?_) rfl (by kernel_rfl) (fun _ _ _ h => h) (Or.inl ⟨by rfl, ?_⟩) (by assumption) ?_; rotate_left; (focus (intro w hSw; skip; go_simp; (try with_reducible rfl))); (try (refine wpAnyL_norm (by simp only [Act.put, List.setIfInBounds_toArray, List.set_cons_zero, List.set_cons_succ]; rfl) ?_))
              refine wpAnyL_take (i := 3) (v := ?_) rfl (by kernel_rfl) (fun _ _ _ h => h) (Or.inl ⟨by rfl, ?_⟩) (by assumption) ?_; rotate_left; (focus (intro w hSw; skip; go_simp; (try with_reducible rfl))); (try (refine wpAnyL_norm (by simp only [Act.put, List.setIfInBounds_toArray, List.set_cons_zero, List.set_cons_succ]; rfl) ?_))
              refine wpAnyL_take (i := 4) (v := ?_) rfl (by kernel_rfl) (fun _ _ _ h => h) (Or.inl ⟨by rfl, ?_⟩) (by assumption) ?_; rotate_left; (focus (intro w hSw; skip; go_simp; (try with_reducible rfl))); (try (refine wpAnyL_norm (by simp only [Act.put, List.setIfInBounds_toArray, List.set_cons_zero, List.set_cons_succ]; rfl) ?_))
              refine wpAnyL_take (i := 5) rfl (by kernel_rfl) (fun _ _ _ h => h) (yields_load_at 30 (.tmp 78) rfl ⟨b, off + k * 3 + 1, none⟩ rfl [.int .u32 A, .int .u32 S2] _ (fun W h jj v hv => by
                rw [Go.WideShapes.add_plain]
                match jj, hv with
                | 0, hv => exact (((Y4.out.f.trans0 h).cell (a := ⟨b, off + (k * 3 + 1), none⟩) HB.out (by simp)).trans HC1.out).trans hv
                | 1, hv => exact (((Y4.out.f.trans0 h).cell (a := ⟨b, off + (k * 3 + 2), none⟩) HB.out (by simp)).trans HC2.out).trans hv) Try.underlying30 rfl infoRgS rfl) (by assumption) ?_; (try (refine wpAnyL_norm (by simp only [Act.put, List.setIfInBounds_toArray, List.set_cons_zero, List.set_cons_succ]; rfl) ?_))
              refine wpAnyL_ready (rs := [6, 10]) (by kernel_rfl) (by simp) ?_
              refine AllReadyL.cons rfl (fun K hK => ?_) (AllReadyL.cons rfl (fun K hK => ?_) AllReadyL.nil)
              · skip
                go_simp
                refine (CR.out _ s4 (R4.out.rl.fr hHeld) (fun x hx => Nat.lt_of_lt_of_le (HS4.out x hx) hHeld.size)).mono ?_
                rintro e w5 ⟨wa', wc', la', lc', rfl, hl5, hf5⟩
                have L5 := Lib.hid hl5
                have hh := hHeld.trans0 hf5
                refine hK.out _ _ (fun _ => hh) (fun hHeld' => ?_); have hHeld := hHeld' (by decide); clear hHeld' hK K; (try (refine wpAnyL_norm (by simp only [Act.put, List.setIfInBounds_toArray, List.set_cons_zero, List.set_cons_succ]; rfl) ?_))
                have HX5 := Lib.hid hh
                clear hh hl5
                obtain ⟨RC', hRC'⟩ : ∃ RC', ryc (16 * n : Nat) wa' m'.lw.length wc' la' m'.lb.length lc' m'.ep m'.un = RC' := ⟨_, rfl⟩
                rw [hRC']
                have HRC' := Lib.hid hRC'
                have HSZ' := Lib.hid (show RC'.size = 5 by rw [← hRC']; rfl)
                have HON' := Lib.hid (show RC'.all (·.oneCell') = true by rw [← hRC']; exact ryc_one _ _ _ _ _)
                clear hRC'
                refine wpAnyL_take (i := 7) (v := ?_) rfl (by kernel_rfl) (fun _ _ _ h => h) (Or.inl ⟨by rfl, ?_⟩) (by assumption) ?_; rotate_left; (focus (intro w hSw; skip; go_simp; (try with_reducible rfl))); (try (refine wpAnyL_norm (by simp only [Act.put, List.setIfInBounds_toArray, List.set_cons_zero, List.set_cons_succ]; rfl) ?_))
                refine wpAnyL_take (i := 8) (v := ?_) rfl (by kernel_rfl) (fun _ _ _ h => h) (Or.inl ⟨by rfl, ?_⟩) (by assumption) ?_; rotate_left; (focus (intro w hSw; skip; go_simp; (try with_reducible rfl))); (try (refine wpAnyL_norm (by simp only [Act.put, List.setIfInBounds_toArray, List.set_cons_zero, List.set_cons_succ]; rfl) ?_))
                refine wpAnyL_take (i := 9) (v := ?_) rfl (by kernel_rfl) (fun _ _ _ h => h) (Or.inl ⟨by rfl, ?_⟩) (by assumption) ?_; rotate_left; (focus (intro w hSw; skip; go_simp; (try with_reducible rfl))); (try (refine wpAnyL_norm (by simp only [Act.put, List.setIfInBounds_toArray, List.set_cons_zero, List.set_cons_succ]; rfl) ?_))
                refine wpAnyL_ready (rs := [10]) (by kernel_rfl) (by simp) ?_; refine AllReadyL.cons rfl (fun K hK => ?_) AllReadyL.nil
                go_simp
                have AN := Lib.hid (At.new w5 45 #[.int .i64 0, .slice none 0 0, .slice none 0 0, .int .u64 0, .bool false])
                have hh := hHeld.alloc (.cells #[.int .i64 0, .slice none 0 0, .slice none 0 0, .int .u64 0, .bool false] 45)
                refine hK.out _ _ (fun _ => hh) (fun hHeld' => ?_); have hHeld := hHeld' (by decide); clear hHeld' hK K; (try (refine wpAnyL_norm (by simp only [Act.put, List.setIfInBounds_toArray, List.set_cons_zero, List.set_cons_succ]; rfl) ?_))
                clear hh
                obtain ⟨g, hg⟩ : ∃ g, w5.heap.size = g := ⟨_, rfl⟩
                have hg4 : w4.heap.size ≤ g := by rw [← hg]; exact HX5.out.size
                rw [hg] at AN
                replace L5 := Lib.hid (L5.out.fr ((Fr.refl [] w5).alloc (.cells #[.int .i64 0, .slice none 0 0, .slice none 0 0, .int .u64 0, .bool false] 45)))
                refine wpAnyL_ready (rs := [11]) (by kernel_rfl) (by simp) ?_; refine AllReadyL.cons rfl (fun K hK => ?_) AllReadyL.nil
                rw [if_pos (by rfl)]
                refine wp_store_allR 45 (.tmp 11) (.tmp 81) rfl g RC' (by subst hg; rfl) rfl 45 #[.int .i64 0, .slice none 0 0, .slice none 0 0, .int .u64 0, .bool false] AN.out (by rw [HSZ'.out]; exact HI.out) (by rw [HSZ'.out]; rfl) HON'.out ?_
                intro w8 hA8 hF8
                have hh := hHeld.trans hF8 (fun x hx => .inr (by simp at hx; omega))
                refine hK.out _ _ (fun _ => hh) (fun hHeld' => ?_); have hHeld := hHeld' (by decide); clear hHeld' hK K; (try (refine wpAnyL_norm (by simp only [Act.put, List.setIfInBounds_toArray, List.set_cons_zero, List.set_cons_succ]; rfl) ?_))
                clear hh
                refine wpAnyL_take (i := 12) (v := ?_) rfl (by kernel_rfl) (fun _ _ _ h => h) (Or.inl ⟨by rfl, ?_⟩) (by assumption) ?_; rotate_left; (focus (intro w hSw; skip; go_simp; (try with_reducible rfl))); (try (refine wpAnyL_norm (by simp only [Act.put, List.setIfInBounds_toArray, List.set_cons_zero, List.set_cons_succ]; rfl) ?_))
                refine wpAnyL_done (by kernel_rfl) ?_ _
                have L8 : Rl w8 s4 m' wa' wc' la' lc' := ⟨own_fr L5.out.ow hF8 (fun x hx => by simpa using own_ne L5.out.ow AN.out (by decide) x hx), own_fr L5.out.ol hF8 (fun x hx => by simpa using own_ne L5.out.ol AN.out (by decide) x hx), L5.out.fw, L5.out.fl⟩
                have HL8 := Lib.hid L8
                have HF8 := Lib.hid hHeld
                have HA8 := Lib.hid hA8
                clear L8 hHeld hA8 hF8
                go_wp2_with fail
                go_meet
                exact ⟨g, wa', la', wc', lc', by subst hg; rfl, rfl, HL8.out, HF8.out, by rw [HRC'.out]; exact HA8.out, hg4⟩
              · go_simp
                have AN0 := Lib.hid (At.new w4.drew 45 #[.int .i64 0, .slice none 0 0, .slice none 0 0, .int .u64 0, .bool false])
                have hh := hHeld.alloc (.cells #[.int .i64 0, .slice none 0 0, .slice none 0 0, .int .u64 0, .bool false] 45)
                refine hK.out _ _ (fun _ => hh) (fun hHeld' => ?_); have hHeld := hHeld' (by decide); clear hHeld' hK K; (try (refine wpAnyL_norm (by simp only [Act.put, List.setIfInBounds_toArray, List.set_cons_zero, List.set_cons_succ]; rfl) ?_))
                clear hh
                refine wpAnyL_ready (rs := [6]) (by kernel_rfl) (by simp) ?_; refine AllReadyL.cons rfl (fun K hK => ?_) AllReadyL.nil
                go_simp
                refine (CR.out _ s4 (R4.out.rl.fr hHeld) (fun x hx => Nat.lt_of_lt_of_le (HS4.out x hx) hHeld.size)).mono ?_
                rintro e w5 ⟨wa', wc', la', lc', rfl, hl5, hf5⟩
                have L5 := Lib.hid hl5
                have hh := hHeld.trans0 hf5
                refine hK.out _ _ (fun _ => hh) (fun hHeld' => ?_); have hHeld := hHeld' (by decide); clear hHeld' hK K; (try (refine wpAnyL_norm (by simp only [Act.put, List.setIfInBounds_toArray, List.set_cons_zero, List.set_cons_succ]; rfl) ?_))
                have HX5 := Lib.hid hh
                clear hh hl5
                obtain ⟨RC', hRC'⟩ : ∃ RC', ryc (16 * n : Nat) wa' m'.lw.length wc' la' m'.lb.length lc' m'.ep m'.un = RC' := ⟨_, rfl⟩
                rw [hRC']
                have HRC' := Lib.hid hRC'
                have HSZ' := Lib.hid (show RC'.size = 5 by rw [← hRC']; rfl)
                have HON' := Lib.hid (show RC'.all (·.oneCell') = true by rw [← hRC']; exact ryc_one _ _ _ _ _)
                clear hRC'
                have AN := Lib.hid (AN0.out.fr hf5 (by simp))
                obtain ⟨g, hg⟩ : ∃ g, w4.drew.heap.size = g := ⟨_, rfl⟩
                have hg4 : w4.heap.size ≤ g := by rw [← hg]; exact Nat.le_refl _
                rw [hg] at AN
                refine wpAnyL_take (i := 7) (v := ?_) rfl (by kernel_rfl) (fun _ _ _ h => h) (Or.inl ⟨by rfl, ?_⟩) (by assumption) ?_; rotate_left; (focus (intro w hSw; skip; go_simp; (try with_reducible rfl))); (try (refine wpAnyL_norm (by simp only [Act.put, List.setIfInBounds_toArray, List.set_cons_zero, List.set_cons_succ]; rfl) ?_))
                refine wpAnyL_take (i := 8) (v := ?_) rfl (by kernel_rfl) (fun _ _ _ h => h) (Or.inl ⟨by rfl, ?_⟩) (by assumption) ?_; rotate_left; (focus (intro w hSw; skip; go_simp; (try with_reducible rfl))); (try (refine wpAnyL_norm (by simp only [Act.put, List.setIfInBounds_toArray, List.set_cons_zero, List.set_cons_succ]; rfl) ?_))
                refine wpAnyL_take (i := 9) (v := ?_) rfl (by kernel_rfl) (fun _ _ _ h => h) (Or.inl ⟨by rfl, ?_⟩) (by assumption) ?_; rotate_left; (focus (intro w hSw; skip; go_simp; (try with_reducible rfl))); (try (refine wpAnyL_norm (by simp only [Act.put, List.setIfInBounds_toArray, List.set_cons_zero, List.set_cons_succ]; rfl) ?_))
                refine wpAnyL_ready (rs := [11]) (by kernel_rfl) (by simp) ?_; refine AllReadyL.cons rfl (fun K hK => ?_) AllReadyL.nil
                rw [if_pos (by rfl)]
                refine wp_store_allR 45 (.tmp 11) (.tmp 81) rfl g RC' (by subst hg; rfl) rfl 45 #[.int .i64 0, .slice none 0 0, .slice none 0 0, .int .u64 0, .bool false] AN.out (by rw [HSZ'.out]; exact HI.out) (by rw [HSZ'.out]; rfl) HON'.out ?_
                intro w8 hA8 hF8
                have hh := hHeld.trans hF8 (fun x hx => .inr (by simp at hx; omega))
                refine hK.out _ _ (fun _ => hh) (fun hHeld' => ?_); have hHeld := hHeld' (by decide); clear hHeld' hK K; (try (refine wpAnyL_norm (by simp only [Act.put, List.setIfInBounds_toArray, List.set_cons_zero, List.set_cons_succ]; rfl) ?_))
                clear hh
                refine wpAnyL_take (i := 12) (v := ?_) rfl (by kernel_rfl) (fun _ _ _ h => h) (Or.inl ⟨by rfl, ?_⟩) (by assumption) ?_; rotate_left; (focus (intro w hSw; skip; go_simp; (try with_reducible rfl))); (try (refine wpAnyL_norm (by simp only [Act.put, List.setIfInBounds_toArray, List.set_cons_zero, List.set_cons_succ]; rfl) ?_))
                refine wpAnyL_done (by kernel_rfl) ?_ _
                have L8 : Rl w8 s4 m' wa' wc' la' lc' := ⟨own_fr L5.out.ow hF8 (fun x hx => by simpa using own_ne L5.out.ow AN.out (by decide) x hx), own_fr L5.out.ol hF8 (fun x hx => by simpa using own_ne L5.out.ol AN.out (by decide) x hx), L5.out.fw, L5.out.fl⟩
                have HL8 := Lib.hid L8
                have HF8 := Lib.hid hHeld
                have HA8 := Lib.hid hA8
                clear L8 hHeld hA8 hF8
                go_wp2_with fail
                go_meet
                exact ⟨g, wa', la', wc', lc', by subst hg; rfl, rfl, HL8.out, HF8.out, by rw [HRC'.out]; exact HA8.out, hg4⟩
            case rest =>
              obtain ⟨g, wa', la', wc', lc', rfl, rfl, hl8, hf8, ha8, hg4⟩ := hcut
              rename World => wx
              have L8 := Lib.hid hl8
              have R8 := Lib.hid (R4.out.fr hf8)
              have Y8 := Lib.hid (Y4.out.fr hf8)
              have AQ := Lib.hid (AR4.out.fr hf8 (by simp))
              obtain ⟨RC', hRC'⟩ : ∃ RC', ryc (16 * n : Nat) wa' m'.lw.length wc' la' m'.lb.length lc' m'.ep m'.un = RC' := ⟨_, rfl⟩
              rw [hRC'] at ha8
              have AG := Lib.hid ha8
              have HRC' := Lib.hid hRC'
              have HSZ' := Lib.hid (show RC'.size = 5 by rw [← hRC']; rfl)
              have HON' := Lib.hid (show RC'.all (·.oneCell') = true by rw [← hRC']; exact ryc_one _ _ _ _ _)
              clear hRC' hl8 hf8 ha8
              go_upto_region 18 with (first | (refine wpList_load_all rfl 45 (.tmp 11) rfl g rfl 45 RC' _ AG.out Try.underlying45 rfl (by rw [HSZ'.out]; exact HI.out) ?_) | (refine wpList_store_all rfl 45 (.tmp 6) (.tmp 83) rfl q RC' rfl rfl 45 RC AQ.out (by rw [HSZ'.out]; exact HI.out) (by rw [HSZ.out, HSZ'.out]) HON'.out ?_; intro w9 hA9 hF9))
              rw [← HRC'.out] at hA9
              have Y9 := Lib.hid (Y8.out.offR R8.out.at_ hq0 hF9)
              have R9 := Lib.hid (R8.out.put hF9 hA9 L8.out)
              clear hA9 hF9
              go_wp2_with fail
              go_meet
              exact ⟨y, m', s4, wa', la', wc', lc', rfl, rfl, HMN'.out, hep', Y9.out, R9.out⟩
          · have hne : ((1 : Int) == 0) = false := rfl
            have CF := Lib.hid (begin_m HY.out (by omega))
            have CR := Lib.hid fun W s' (hl : Rl W s' m wa wc la lc) => rbegin_m W n m s' wa la wc lc hl (by omega)
            have HMN' : Hid ((mBegin m).n = n) := Lib.hid (by unfold mBegin; split <;> exact HMN.out)
            have hep' : (mBegin m).ep ≤ k + 1 := by unfold mBegin; split <;> first | exact Nat.le_succ_of_le hep | exact Nat.succ_le_succ hep
            obtain ⟨m', hm'⟩ : ∃ m', mBegin m = m' := ⟨_, rfl⟩
            rw [hm'] at CF CR HMN' hep'
            rw [hRC] at CR
            obtain ⟨X, hX⟩ : ∃ X : Nat, (if m.un = true then 0 else m.ep + 1 : Nat) = X := ⟨_, rfl⟩
            obtain ⟨B, hB⟩ : ∃ B, (!m.un) = B := ⟨_, rfl⟩
            rw [hX, hB] at CF CR
            clear hRC hB hm' hX hne
            go_wp2_with fail
            refine (CF.out).mono ?_
            rintro e w4 ⟨rfl, s4, ht⟩
            have Y4 := Lib.hid ht.yw
            have R4 := Lib.hid (HR.out.turn ht)
            have AR4 := Lib.hid (AR.out.fr ht.f HR.out.nq)
            clear ht CF HY HR AR
            go_wp2_with (refine wpList_load_all rfl 45 (.tmp 6) rfl q rfl 45 RC _ AR4.out Try.underlying45 rfl (by rw [HSZ.out]; exact HI.out) ?_)
            refine (CR.out _ s4 R4.out.rl).mono ?_
            rintro e w5 ⟨wa', wc', la', lc', rfl, hl5, hf5⟩
            -- behind the reference's call, world w5
            obtain ⟨RC', hRC'⟩ : ∃ RC', ryc (16 * n : Nat) wa' m'.lw.length wc' la' m'.lb.length lc' m'.ep m'.un = RC' := ⟨_, rfl⟩
            rw [hRC']
            have HRC' := Lib.hid hRC'
            have HSZ' := Lib.hid (show RC'.size = 5 by rw [← hRC']; rfl)
            have HON' := Lib.hid (show RC'.all (·.oneCell') = true by rw [← hRC']; exact ryc_one _ _ _ _ _)
            have AN := Lib.hid (At.new w5 45 #[.int .i64 0, .slice none 0 0, .slice none 0 0, .int .u64 0, .bool false])
            have L5 := Lib.hid ((hl5).fr ((Fr.refl [] w5).alloc (.cells #[.int .i64 0, .slice none 0 0, .slice none 0 0, .int .u64 0, .bool false] 45)))
            have F5 := Lib.hid ((hf5).alloc (.cells #[.int .i64 0, .slice none 0 0, .slice none 0 0, .int .u64 0, .bool false] 45))
            have HG4 := Lib.hid ((hf5).size)
            clear hRC' hl5 hf5
            go_upto_region 22 with (refine wpList_store_all rfl 45 (.tmp 15) (.tmp 97) rfl w5.heap.size RC' rfl rfl 45 #[.int .i64 0, .slice none 0 0, .slice none 0 0, .int .u64 0, .bool false] AN.out (by rw [HSZ'.out]; exact HI.out) (by rw [HSZ'.out]; rfl) HON'.out ?_; intro w8 hA8 hF8)
            -- behind the store into the new block of w5: w8 hA8 hF8
            have AG := Lib.hid hA8
            have F8 := Lib.hid (F5.out.trans hF8 (fun x hx => .inr (by have := HG4.out; simp at hx; omega)))
            have R8 := Lib.hid (R4.out.fr F8.out)
            have Y8 := Lib.hid (Y4.out.fr F8.out)
            have AQ := Lib.hid (AR4.out.fr F8.out (by simp))
            have L8 : Hid (Rl w8 s4 m' wa' wc' la' lc') := Lib.hid ⟨own_fr L5.out.ow hF8 (fun x hx => by simpa using own_ne L5.out.ow AN.out (by decide) x hx), own_fr L5.out.ol hF8 (fun x hx => by simpa using own_ne L5.out.ol AN.out (by decide) x hx), L5.out.fw, L5.out.fl⟩
            clear hA8 hF8
            go_upto_region 23 with (first | (refine wpList_load_all rfl 45 (.tmp 15) rfl w5.heap.size rfl 45 RC' _ AG.out Try.underlying45 rfl (by rw [HSZ'.out]; exact HI.out) ?_) | (refine wpList_store_all rfl 45 (.tmp 6) (.tmp 100) rfl q RC' rfl rfl 45 RC AQ.out (by rw [HSZ'.out]; exact HI.out) (by rw [HSZ.out, HSZ'.out]) HON'.out ?_; intro w9 hA9 hF9))
            rw [← HRC'.out] at hA9
            have Y9 := Lib.hid (Y8.out.offR R8.out.at_ hq0 hF9)
            have R9 := Lib.hid (R8.out.put hF9 hA9 L8.out)
            clear hA9 hF9
            go_wp2_with fail
            go_meet
            exact ⟨y, m', s4, wa', la', wc', lc', rfl, rfl, HMN'.out, hep', Y9.out, R9.out⟩
          · have CF := Lib.hid (end_m HY.out)
            have CR := Lib.hid fun W s' (hl : Rl W s' m wa wc la lc) => rend_m W n m s' wa la wc lc hl
            have HMN' : Hid ((mEnd m).n = n) := Lib.hid (by unfold mEnd; split <;> exact HMN.out)
            have hep' : (mEnd m).ep ≤ k + 1 := by unfold mEnd; split <;> exact Nat.le_succ_of_le hep
            obtain ⟨-, -, -, -, -, -, hlb⟩ := yw_good HY.out
            have hLL : (if m.un = true then m.lb else []).length ≤ 1000000 := by split <;> first | omega | simp
            obtain ⟨m', hm'⟩ : ∃ m', mEnd m = m' := ⟨_, rfl⟩
            rw [hm'] at CF CR HMN' hep'
            rw [hRC] at CR
            obtain ⟨LL, hLL'⟩ : ∃ LL, (if m.un = true then m.lb else []) = LL := ⟨_, rfl⟩
            rw [hLL'] at CF CR hLL
            clear hRC hm' hLL' hlb
            go_wp2_with fail
            refine (CF.out).mono ?_
            rintro e w4 ⟨v1, rfl, ho1, -, s4, ht⟩
            have O1 := Lib.hid ho1
            clear ho1
            have Y4 := Lib.hid ht.yw
            have R4 := Lib.hid (HR.out.turn ht)
            have AR4 := Lib.hid (AR.out.fr ht.f HR.out.nq)
            clear ht CF HY HR AR
            go_wp2_with (refine wpList_load_all rfl 45 (.tmp 6) rfl q rfl 45 RC _ AR4.out Try.underlying45 rfl (by rw [HSZ.out]; exact HI.out) ?_)
            refine (CR.out _ s4 R4.out.rl).mono ?_
            rintro e w5 ⟨wa', wc', la', lc', v2, rfl, ho2, hl5, hf5⟩
            have O2 := Lib.hid ho2
            clear ho2
            -- behind the reference's call, world w5
            obtain ⟨RC', hRC'⟩ : ∃ RC', ryc (16 * n : Nat) wa' m'.lw.length wc' la' m'.lb.length lc' m'.ep m'.un = RC' := ⟨_, rfl⟩
            rw [hRC']
            have HRC' := Lib.hid hRC'
            have HSZ' := Lib.hid (show RC'.size = 5 by rw [← hRC']; rfl)
            have HON' := Lib.hid (show RC'.all (·.oneCell') = true by rw [← hRC']; exact ryc_one _ _ _ _ _)
            have AN := Lib.hid (At.new w5 45 #[.int .i64 0, .slice none 0 0, .slice none 0 0, .int .u64 0, .bool false])
            have L5 := Lib.hid ((hl5).fr ((Fr.refl [] w5).alloc (.cells #[.int .i64 0, .slice none 0 0, .slice none 0 0, .int .u64 0, .bool false] 45)))
            have F5 := Lib.hid ((hf5).alloc (.cells #[.int .i64 0, .slice none 0 0, .slice none 0 0, .int .u64 0, .bool false] 45))
            have HG4 := Lib.hid ((hf5).size)
            clear hRC' hl5 hf5
            go_upto_region 27 with (refine wpList_store_all rfl 45 (.tmp 19) (.tmp 116) rfl w5.heap.size RC' rfl rfl 45 #[.int .i64 0, .slice none 0 0, .slice none 0 0, .int .u64 0, .bool false] AN.out (by rw [HSZ'.out]; exact HI.out) (by rw [HSZ'.out]; rfl) HON'.out ?_; intro w8 hA8 hF8)
            replace O2 := Lib.hid (own_fr (own_fr0 O2.out ((Fr.refl [] w5).alloc (.cells #[.int .i64 0, .slice none 0 0, .slice none 0 0, .int .u64 0, .bool false] 45))) hF8 (fun x hx => by simpa using own_ne (own_fr0 O2.out ((Fr.refl [] w5).alloc (.cells #[.int .i64 0, .slice none 0 0, .slice none 0 0, .int .u64 0, .bool false] 45))) AN.out (by decide) x hx))
            -- behind the store into the new block of w5: w8 hA8 hF8
            have AG := Lib.hid hA8
            have F8 := Lib.hid (F5.out.trans hF8 (fun x hx => .inr (by have := HG4.out; simp at hx; omega)))
            have R8 := Lib.hid (R4.out.fr F8.out)
            have Y8 := Lib.hid (Y4.out.fr F8.out)
            have AQ := Lib.hid (AR4.out.fr F8.out (by simp))
            have L8 : Hid (Rl w8 s4 m' wa' wc' la' lc') := Lib.hid ⟨own_fr L5.out.ow hF8 (fun x hx => by simpa using own_ne L5.out.ow AN.out (by decide) x hx), own_fr L5.out.ol hF8 (fun x hx => by simpa using own_ne L5.out.ol AN.out (by decide) x hx), L5.out.fw, L5.out.fl⟩
            clear hA8 hF8
            replace O1 := Lib.hid (own_fr0 O1.out F8.out)
            go_upto_region 28 with (first | (refine wpList_load_all rfl 45 (.tmp 19) rfl w5.heap.size rfl 45 RC' _ AG.out Try.underlying45 rfl (by rw [HSZ'.out]; exact HI.out) ?_) | (refine wpList_store_all rfl 45 (.tmp 6) (.tmp 118) rfl q RC' rfl rfl 45 RC AQ.out (by rw [HSZ'.out]; exact HI.out) (by rw [HSZ.out, HSZ'.out]) HON'.out ?_; intro w9 hA9 hF9))
            rw [← HRC'.out] at hA9
            have Y9 := Lib.hid (Y8.out.offR R8.out.at_ hq0 hF9)
            have R9 := Lib.hid (R8.out.put hF9 hA9 L8.out)
            replace O1 := Lib.hid (own_fr O1.out hF9 (fun x hx => by simpa using own_ne O1.out R8.out.at_ (by decide) x hx))
            replace O2 := Lib.hid (own_fr O2.out hF9 (fun x hx => by simpa using own_ne O2.out R8.out.at_ (by decide) x hx))
            clear hA9 hF9
            go_wp2_with fail
            refine (rsame_any _ v1 v2 LL _ _ O1.out O2.out hLL).mono ?_
            rintro e w10 ⟨rfl, hf10⟩
            have Y10 := Lib.hid (Y9.out.fr hf10)
            have R10 := Lib.hid (R9.out.fr hf10)
            clear hf10
            go_wp2_with fail
            go_meet
            exact ⟨y, m', s4, wa', la', wc', lc', rfl, rfl, HMN'.out, hep', Y10.out, R10.out⟩
          · have CC := Lib.hid (copy_far HY.out)
            have hepE : (mEnd m).ep < 1000000 := by unfold mEnd; split <;> first | (dsimp only; omega) | omega
            clear hRC
            go_wp2_with fail
            refine (CC.out).mono ?_
            rintro e w4 ⟨y2, s2, rfl, hy2, hfo2, hfar, hf4⟩
            have Y2 := Lib.hid hy2
            have HFO := Lib.hid hfo2
            have HFAR := Lib.hid hfar
            have YO := Lib.hid (HY.out.fr hf4)
            have R4 := Lib.hid (HR.out.fr hf4)
            clear hy2 hfo2 hfar hf4 CC
            go_wp2_with fail
            refine (end_m YO.out).mono ?_
            rintro e w5 ⟨v1, rfl, -, -, s5, t5⟩
            have Y5 := Lib.hid (Y2.out.far2 HFAR.out (foot_new YO.out) t5.f)
            have FA5 := Lib.hid (Far.turn HFAR.out Y2.out.yd t5)
            have R5 := Lib.hid (R4.out.turn t5)
            have YO5 := Lib.hid t5.yw
            clear t5 Y2 HFAR R4 YO
            go_wp2_with fail
            refine (begin_m YO5.out hepE).mono ?_
            rintro e w6 ⟨rfl, s6, t6⟩
            have Y6 := Lib.hid (Y5.out.far2 FA5.out (foot_new YO5.out) t6.f)
            have R6 := Lib.hid (HR.out.move (R5.out.turn t6) HFO.out)
            clear t6 Y5 FA5 R5 YO5
            go_wp2_with fail
            all_goals
              go_meet
              exact ⟨y2, m, s2, wa, la, wc, lc, rfl, rfl, HMN.out, by omega, Y6.out, R6.out⟩
        case rest =>
          obtain ⟨y', m', s', wa', la', wc', lc', rfl, rfl, hmn', hep', hy', hr'⟩ := hcut
          rename World => wx
          obtain ⟨hG1, hG2, -, -, -, -, -⟩ := yw_good hy'
          have CP := Lib.hid (fun W (f : Fr [] wx W) => paint_m (hy'.fr f))
          have CH := Lib.hid fun W (f : Fr [] wx W) x hx => rhas_m W n m' s' wa' la' wc' lc' (hr'.rl.fr f) hn hmn' hG2 x hx
          have CS := Lib.hid (same_any hy' (16 * n : Nat) wa' wc' la' lc' hr'.ow hr'.ol)
          obtain ⟨RC, hRC⟩ : ∃ RC, ryc (16 * n : Nat) wa' m'.lw.length wc' la' m'.lb.length lc' m'.ep m'.un = RC := ⟨_, rfl⟩
          have HSZ := Lib.hid (show RC.size = 5 by rw [← hRC]; rfl)
          have AR := Lib.hid hr'.at_
          rw [hRC] at AR CS CH
          have HI := Lib.hid (show (Try.prog.info? 45).map (·.size) = some 5 by kernel_rfl)
          have HY' := Lib.hid hy'
          have HR' := Lib.hid hr'
          have HMN' := Lib.hid hmn'
          clear HY HR hmn' hy' hr' hG1 hG2 hRC hr0 hr2 hr3 hr4 hD hD2 hD4 hc0'
          go_wp2_with (refine wpList_load_all (by rfl) 45 (.tmp 6) rfl q rfl 45 RC _ AR.out Try.underlying45 rfl (by rw [HSZ.out]; exact HI.out) ?_)
          refine (CS.out).mono ?_
          rintro e w2 ⟨rfl, hf2⟩
          have F2 := Lib.hid hf2
          clear hf2 CS
          go_wp2_with fail
          refine (CP.out _ F2.out).mono ?_
          rintro e w3 ⟨pp, pq, g, rfl, hpt, hge, hf3⟩
          have hmn := HMN'.out
          rw [hmn] at hpt
          have HP := Lib.hid hpt
          have F3 := Lib.hid (F2.out.trans0 hf3)
          have HG := Lib.hid (show wx.heap.size ≤ g from Nat.le_trans F2.out.size hge.2.2)
          clear hpt hge hf3 hmn CP F2
          go_upto_block 3 with (fail)
          go_cut [23] (fun _ wv => Fr [] w3 wv)
          case first =>
            go_wp2_with fail
            go_loopw [23] (fun i wr => ∃ j : Nat, j ≤ 40 ∧ j ≤ len1 ∧ i = .int .i64 j ∧ Fr [] w3 wr) (fun i _ => len1 - (intOf i).toNat)
            case atStart => exact ⟨0, by omega, by omega, rfl, Fr.refl _ _⟩
            case round =>
              obtain ⟨j, hj, hjl, rfl, hf⟩ := hrel
              rename World => wj
              have FJ := Lib.hid hf
              clear hf
              by_cases h3 : j < len1
              · by_cases h4 : j < 40
                · obtain ⟨cs2, hfit2, hcs2⟩ := hcellsAll.out j h3
                  obtain ⟨z0', z1', z2', rfl, -, hv1, -⟩ := fits3 hfit2
                  have hd1 := hcs2 1 (by simp)
                  simp only [List.length_cons, List.length_nil, List.getElem?_cons_zero, List.getElem?_cons_succ, Nat.zero_add, Nat.reduceAdd] at hd1
                  obtain ⟨bx0, bx1⟩ := bounds_u32 hv1
                  obtain ⟨x, rfl⟩ := Int.eq_ofNat_of_zero_le bx0
                  have hbx : x < 4294967296 := by omega
                  have kx : wj.cell? ⟨b, off + j * 3 + 1, none⟩ = _ := ((HY'.out.f.trans0 (F3.out.trans0 FJ.out)).cell (a := ⟨b, off + (j * 3 + 1), none⟩) hb (by simp)).trans hd1
                  obtain ⟨C, hC⟩ : ∃ C, cov m'.lb (x / 16) = C := ⟨_, rfl⟩
                  obtain ⟨Dl, hDl⟩ : ∃ Dl, decide ((x : Int) < b0) = Dl := ⟨_, rfl⟩
                  have CA := Lib.hid fun W (f : Fr [] w3 W) => pthas_any W pp pq g n (cov m'.lb) (HP.out.fr f (by simp) (by simp) (by simp)) (x : Int) (by omega) (by omega)
                  have hH : hasP n (cov m'.lb) (x : Int) = (C && Dl) := by
                    rw [← hC, ← hDl, HB0.out]
                    exact hasP_lt n (cov m'.lb) x
                  rw [hH] at CA
                  have CB := Lib.hid fun W (f : Fr [] wx W) => CH.out W f x hbx
                  rw [hC] at CB
                  clear hH hC hcs2 hfit2 hd1 hv1 bx0
                  have hwx : IntKind.i64.wrap (x : Int) = (x : Int) := by simp [IntKind.wrap, IntKind.signed, IntKind.bits]; omega
                  cases C with
                  | true =>
                    rw [Bool.true_and] at CA
                    cases Dl
                    all_goals
                      go_wp2_with fail
                      refine wp_region_L (fun W => Fr [] wj W) [] (by kernel_rfl) ((Fr.refl _ _).drew) (fun hHeld => ?_)
                      refine wpAnyL_take (i := 0) (v := ?_) rfl (by kernel_rfl) (fun _ _ _ h => h) (Or.inl ⟨by rfl, ?_⟩) (by assumption) ?_; rotate_left; (focus (intro w hSw; skip; go_simp; (try with_reducible rfl))); (try (refine wpAnyL_norm (by simp only [Act.put, List.setIfInBounds_toArray, List.set_cons_zero, List.set_cons_succ]; rfl) ?_))
                      refine wpAnyL_take (i := 1) (v := ?_) rfl (by kernel_rfl) (fun _ _ _ h => h) (Or.inl ⟨by rfl, ?_⟩) (by assumption) ?_; rotate_left; (focus (intro w hSw; skip; go_simp; (try with_reducible rfl))); (try (refine wpAnyL_norm (by simp only [Act.put, List.setIfInBounds_toArray, List.set_cons_zero, List.set_cons_succ]; rfl) ?_))
                      refine wpAnyL_take (i := 3) rfl (by kernel_rfl) (fun _ _ _ h => h) (yields_load_row 45 (.tmp 6) rfl q rfl 45 RC _ (fun W h => AR.out.fr ((F3.out.trans0 FJ.out).trans0 h) (by simp)) Try.underlying45 rfl (by rw [HSZ.out]; exact HI.out) rfl) (by assumption) ?_; (try (refine wpAnyL_norm (by simp only [Act.put, List.setIfInBounds_toArray, List.set_cons_zero, List.set_cons_succ]; rfl) ?_))
                      refine wpAnyL_take (i := 4) (v := ?_) rfl (by kernel_rfl) (fun _ _ _ h => h) (Or.inl ⟨by rfl, ?_⟩) (by assumption) ?_; rotate_left; (focus (intro w hSw; skip; go_simp; (try with_reducible rfl))); (try (refine wpAnyL_norm (by simp only [Act.put, List.setIfInBounds_toArray, List.set_cons_zero, List.set_cons_succ]; rfl) ?_))
                      refine wpAnyL_ready (rs := [2]) (by kernel_rfl) (by simp) ?_; refine AllReadyL.cons rfl (fun K hK => ?_) AllReadyL.nil
                      go_simp
                      refine (CA.out _ (FJ.out.trans0 hHeld)).mono ?_
                      rintro e w8 ⟨rfl, rfl⟩
                      refine hK.out _ _ (fun _ => hHeld) (fun hHeld' => ?_); have hHeld := hHeld' (by decide); clear hHeld' hK K; (try (refine wpAnyL_norm (by simp only [Act.put, List.setIfInBounds_toArray, List.set_cons_zero, List.set_cons_succ]; rfl) ?_))
                      refine wpAnyL_ready (rs := [5]) (by kernel_rfl) (by simp) ?_; refine AllReadyL.cons rfl (fun K hK => ?_) AllReadyL.nil
                      go_simp
                      refine (CB.out _ ((F3.out.trans0 FJ.out).trans0 hHeld)).mono ?_
                      rintro e w8 ⟨rfl, hf8⟩
                      have hh := hHeld.trans0 hf8
                      refine hK.out _ _ (fun _ => hh) (fun hHeld' => ?_); have hHeld := hHeld' (by decide); clear hHeld' hK K; (try (refine wpAnyL_norm (by simp only [Act.put, List.setIfInBounds_toArray, List.set_cons_zero, List.set_cons_succ]; rfl) ?_))
                      clear hh hf8
                      refine wpAnyL_take (i := 6) (v := ?_) rfl (by kernel_rfl) (fun _ _ _ h => h) (Or.inl ⟨by rfl, ?_⟩) (by assumption) ?_; rotate_left; (focus (intro w hSw; skip; go_simp; (try with_reducible rfl))); (try (refine wpAnyL_norm (by simp only [Act.put, List.setIfInBounds_toArray, List.set_cons_zero, List.set_cons_succ]; rfl) ?_))
                      refine wpAnyL_take (i := 7) (v := ?_) rfl (by kernel_rfl) (fun _ _ _ h => h) (Or.inl ⟨by rfl, ?_⟩) (by assumption) ?_; rotate_left; (focus (intro w hSw; skip; go_simp; (try with_reducible rfl))); (try (refine wpAnyL_norm (by simp only [Act.put, List.setIfInBounds_toArray, List.set_cons_zero, List.set_cons_succ]; rfl) ?_))
                      refine wpAnyL_take (i := 8) (v := ?_) rfl (by kernel_rfl) (fun _ _ _ h => h) (Or.inl ⟨by rfl, ?_⟩) (by assumption) ?_; rotate_left; (focus (intro w hSw; skip; go_simp; (try with_reducible rfl))); (try (refine wpAnyL_norm (by simp only [Act.put, List.setIfInBounds_toArray, List.set_cons_zero, List.set_cons_succ]; rfl) ?_))
                      refine wpAnyL_take (i := 9) (v := ?_) rfl (by kernel_rfl) (fun _ _ _ h => h) (Or.inl ⟨by rfl, ?_⟩) (by assumption) ?_; rotate_left; (focus (intro w hSw; skip; go_simp; (try with_reducible rfl))); (try (refine wpAnyL_norm (by simp only [Act.put, List.setIfInBounds_toArray, List.set_cons_zero, List.set_cons_succ]; rfl) ?_))
                      refine wpAnyL_take (i := 10) (v := ?_) rfl (by kernel_rfl) (fun _ _ _ h => h) (Or.inl ⟨by rfl, ?_⟩) (by assumption) ?_; rotate_left; (focus (intro w hSw; skip; go_simp; (try with_reducible rfl))); (try (refine wpAnyL_norm (by simp only [Act.put, List.setIfInBounds_toArray, List.set_cons_zero, List.set_cons_succ]; rfl) ?_))
                      refine wpAnyL_take (i := 11) (v := ?_) rfl (by kernel_rfl) (fun _ _ _ h => h) (Or.inl ⟨by rfl, ?_⟩) (by assumption) ?_; rotate_left; (focus (intro w hSw; skip; go_simp; (try with_reducible rfl))); (try (refine wpAnyL_norm (by simp only [Act.put, List.setIfInBounds_toArray, List.set_cons_zero, List.set_cons_succ]; rfl) ?_))
                      refine wpAnyL_take (i := 12) (v := ?_) rfl (by kernel_rfl) (fun _ _ _ h => h) (Or.inl ⟨by rfl, ?_⟩) (by assumption) ?_; rotate_left; (focus (intro w hSw; skip; go_simp; (try with_reducible rfl))); (try (refine wpAnyL_norm (by simp only [Act.put, List.setIfInBounds_toArray, List.set_cons_zero, List.set_cons_succ]; rfl) ?_))
                      refine wpAnyL_done (by kernel_rfl) ?_ _
                      have F8 := Lib.hid (FJ.out.trans0 hHeld)
                      clear hHeld CA CB
                      go_wp2_with fail
                      go_roundw
                      case rel => exact ⟨j + 1, by omega, by omega, by go_num, F8.out⟩
                      case measure => simp [intOf]; omega
                  | false =>
                    rw [Bool.false_and] at CA
                    go_wp2_with fail
                    refine wp_region_L (fun W => Fr [] wj W) [] (by kernel_rfl) ((Fr.refl _ _).drew) (fun hHeld => ?_)
                    refine wpAnyL_take (i := 0) (v := ?_) rfl (by kernel_rfl) (fun _ _ _ h => h) (Or.inl ⟨by rfl, ?_⟩) (by assumption) ?_; rotate_left; (focus (intro w hSw; skip; go_simp; (try with_reducible rfl))); (try (refine wpAnyL_norm (by simp only [Act.put, List.setIfInBounds_toArray, List.set_cons_zero, List.set_cons_succ]; rfl) ?_))
                    refine wpAnyL_take (i := 1) (v := ?_) rfl (by kernel_rfl) (fun _ _ _ h => h) (Or.inl ⟨by rfl, ?_⟩) (by assumption) ?_; rotate_left; (focus (intro w hSw; skip; go_simp; (try with_reducible rfl))); (try (refine wpAnyL_norm (by simp only [Act.put, List.setIfInBounds_toArray, List.set_cons_zero, List.set_cons_succ]; rfl) ?_))
                    refine wpAnyL_take (i := 3) rfl (by kernel_rfl) (fun _ _ _ h => h) (yields_load_row 45 (.tmp 6) rfl q rfl 45 RC _ (fun W h => AR.out.fr ((F3.out.trans0 FJ.out).trans0 h) (by simp)) Try.underlying45 rfl (by rw [HSZ.out]; exact HI.out) rfl) (by assumption) ?_; (try (refine wpAnyL_norm (by simp only [Act.put, List.setIfInBounds_toArray, List.set_cons_zero, List.set_cons_succ]; rfl) ?_))
                    refine wpAnyL_take (i := 4) (v := ?_) rfl (by kernel_rfl) (fun _ _ _ h => h) (Or.inl ⟨by rfl, ?_⟩) (by assumption) ?_; rotate_left; (focus (intro w hSw; skip; go_simp; (try with_reducible rfl))); (try (refine wpAnyL_norm (by simp only [Act.put, List.setIfInBounds_toArray, List.set_cons_zero, List.set_cons_succ]; rfl) ?_))
                    refine wpAnyL_ready (rs := [2]) (by kernel_rfl) (by simp) ?_; refine AllReadyL.cons rfl (fun K hK => ?_) AllReadyL.nil
                    go_simp
                    refine (CA.out _ (FJ.out.trans0 hHeld)).mono ?_
                    rintro e w8 ⟨rfl, rfl⟩
                    refine hK.out _ _ (fun _ => hHeld) (fun hHeld' => ?_); have hHeld := hHeld' (by decide); clear hHeld' hK K; (try (refine wpAnyL_norm (by simp only [Act.put, List.setIfInBounds_toArray, List.set_cons_zero, List.set_cons_succ]; rfl) ?_))
                    refine wpAnyL_ready (rs := [5]) (by kernel_rfl) (by simp) ?_; refine AllReadyL.cons rfl (fun K hK => ?_) AllReadyL.nil
                    go_simp
                    refine (CB.out _ ((F3.out.trans0 FJ.out).trans0 hHeld)).mono ?_
                    rintro e w8 ⟨rfl, hf8⟩
                    have hh := hHeld.trans0 hf8
                    refine hK.out _ _ (fun _ => hh) (fun hHeld' => ?_); have hHeld := hHeld' (by decide); clear hHeld' hK K; (try (refine wpAnyL_norm (by simp only [Act.put, List.setIfInBounds_toArray, List.set_cons_zero, List.set_cons_succ]; rfl) ?_))
                    clear hh hf8
                    refine wpAnyL_take (i := 6) (v := ?_) rfl (by kernel_rfl) (fun _ _ _ h => h) (Or.inl ⟨by rfl, ?_⟩) (by assumption) ?_; rotate_left; (focus (intro w hSw; skip; go_simp; (try with_reducible rfl))); (try (refine wpAnyL_norm (by simp only [Act.put, List.setIfInBounds_toArray, List.set_cons_zero, List.set_cons_succ]; rfl) ?_))
                    refine wpAnyL_take (i := 7) (v := undef) rfl (by kernel_rfl) (fun _ _ _ h => h) (Or.inr ⟨by rfl, rfl⟩) (by assumption) ?_; (try (refine wpAnyL_norm (by simp only [Act.put, List.setIfInBounds_toArray, List.set_cons_zero, List.set_cons_succ]; rfl) ?_))
                    refine wpAnyL_take (i := 8) (v := undef) rfl (by kernel_rfl) (fun _ _ _ h => h) (Or.inr ⟨by rfl, rfl⟩) (by assumption) ?_; (try (refine wpAnyL_norm (by simp only [Act.put, List.setIfInBounds_toArray, List.set_cons_zero, List.set_cons_succ]; rfl) ?_))
                    refine wpAnyL_take (i := 9) (v := undef) rfl (by kernel_rfl) (fun _ _ _ h => h) (Or.inr ⟨by rfl, rfl⟩) (by assumption) ?_; (try (refine wpAnyL_norm (by simp only [Act.put, List.setIfInBounds_toArray, List.set_cons_zero, List.set_cons_succ]; rfl) ?_))
                    refine wpAnyL_take (i := 10) (v := undef) rfl (by kernel_rfl) (fun _ _ _ h => h) (Or.inr ⟨by rfl, rfl⟩) (by assumption) ?_; (try (refine wpAnyL_norm (by simp only [Act.put, List.setIfInBounds_toArray, List.set_cons_zero, List.set_cons_succ]; rfl) ?_))
                    refine wpAnyL_take (i := 11) (v := ?_) rfl (by kernel_rfl) (fun _ _ _ h => h) (Or.inl ⟨by rfl, ?_⟩) (by assumption) ?_; rotate_left; (focus (intro w hSw; skip; go_simp; (try with_reducible rfl))); (try (refine wpAnyL_norm (by simp only [Act.put, List.setIfInBounds_toArray, List.set_cons_zero, List.set_cons_succ]; rfl) ?_))
                    refine wpAnyL_take (i := 12) (v := ?_) rfl (by kernel_rfl) (fun _ _ _ h => h) (Or.inl ⟨by rfl, ?_⟩) (by assumption) ?_; rotate_left; (focus (intro w hSw; skip; go_simp; (try with_reducible rfl))); (try (refine wpAnyL_norm (by simp only [Act.put, List.setIfInBounds_toArray, List.set_cons_zero, List.set_cons_succ]; rfl) ?_))
                    refine wpAnyL_done (by kernel_rfl) ?_ _
                    have F8 := Lib.hid (FJ.out.trans0 hHeld)
                    clear hHeld CA CB
                    go_wp2_with fail
                    go_roundw
                    case rel => exact ⟨j + 1, by omega, by omega, by go_num, F8.out⟩
                    case measure => simp [intOf]; omega
                · have hd : decide ((j : Int) < (len1 : Int)) = true := by simpa using h3
                  go_wp2_with fail
                  go_meet
                  exact FJ.out
              · go_wp2_with fail
                go_meet
                exact FJ.out
          case rest =>
            rename World => wv
            have FV := Lib.hid hcut
            clear hcut
            go_wp2_with fail
            refine (ptadd_any wv pp pq g n (cov m'.lb) (HP.out.fr FV.out (by simp) (by simp) (by simp)) 0 16 (by omega) (by omega) (by omega) (by omega)).mono ?_
            rintro e w4 ⟨rfl, -, hf4⟩
            have FE := Lib.hid ((F3.out.trans0 FV.out).trans hf4 (fun x hx => .inr (by simp at hx; have := HG.out; omega)))
            clear hf4
            go_wp2_with fail
            go_roundw
            case rel => exact ⟨k + 1, y', m', s', wa', la', wc', lc', by omega, by omega, rfl, by go_num, HMN'.out, by omega, HY'.out.fr FE.out, HR'.out.fr FE.out⟩
            case measure => simp [intOf]; omega
      · have hd1 : decide ((k : Int) < (len1 : Int)) = true := by simpa using h1
        go_wp2_with fail
        refine (works_any _).mono ?_
        rintro e w9 ⟨rfl, hf9⟩
        go_wp2_with fail
        go_ret
        exact ⟨rfl, HY.out.f.trans0 hf9⟩
    · go_wp2_with fail
      refine (works_any _).mono ?_
      rintro e w9 ⟨rfl, hf9⟩
      go_wp2_with fail
      go_ret
      exact ⟨rfl, HY.out.f.trans0 hf9⟩
theorem walk (a0 : Int) (w0 : (Lit.int .i64 a0).wf = true) (a1 : Option Addr) (len1 cap1 : Nat) (w : World) (w1 : Elems w a1 len1 [.i .i64, .i .u32, .i .u32]) :
    Calls Try.prog 5 #[.int .i64 a0, .slice a1 len1 cap1] w fun e w' => e = .returned (.bool true) ∧ Fr [] w w' := by
  by_cases hb : a0 < 0 ∨ 262144 < a0 ∨ ¬ a0 % 16 = 0
  · exact walk_bad a0 hb a1 len1 cap1 w
  · exact walk_ok (a0 / 16).toNat (by omega) a0 (by omega) a1 len1 cap1 w w1
theorem laidOut : laidOutB Try.prog = true := by kernel_rfl
set_option maxRecDepth 100000 in
theorem lifted (os : Os) (started : os.Started) (H : Type) (enc : TypeId × Value → H) :
    ReturnsInHanded {} Try.checked os 5 .any (Rows.quarantinePlaysSpec.pre6 enc Try.prog Try.f5 Rows.quarantinePlaysRow.domain false) (Rows.quarantinePlaysSpec.post enc Try.prog Try.f5 false true false false) := by
  refine returnsInHanded_of_change (C := Try.checked) own started (by kernel_rfl) Try.func5
    (ChangeSpec.witness6 (enc := enc) (C := Try.checked) false ⟨#[], #[.int .i64 0, .slice none 0 0], []⟩ 8 (by kernel_rfl) (by kernel_rfl) (by kernel_rfl) (by kernel_rfl)) ?_
  intro W base args ds gs before hval0 hW hcnd _
  have hval : ∀ (j : Nat) t v, Try.f5.params[j]? = some t → args[j]? = some v → Value.okWide Try.prog W .any base t v := hval0
  have hW' := hW
  obtain ⟨p, q, hA0, hV, rfl, hfz, hnd⟩ := hW
  have hA : DataW.TrodAll enc Try.prog W 0 (fun _ => true) true Try.f5.params.toList args.toList ds p := hA0
  rw [Try.params5] at hA hval
  obtain ⟨v0, vs0, d0, ds0, p0, q0, hargs, rfl, rfl, h0, r0⟩ := trodAll_cons hA
  obtain ⟨v1, vs1, d1, ds1, p1, q1, rfl, rfl, rfl, h1, r1⟩ := trodAll_cons r0
  obtain ⟨rfl, rfl, rfl⟩ := trodAll_nil r1
  obtain rfl : args = #[v0, v1] := by cases args; simp_all
  obtain ⟨rfl, rfl⟩ := trodVars_none hV
  obtain ⟨a0, rfl, rfl, rfl, w0⟩ := open_int Try.underlying3 (hval 0 3 v0 rfl rfl) h0
  obtain ⟨a1, len1, cap1, rfl⟩ := okWide_slice Try.underlying43 (hval 1 43 v1 rfl rfl)
  have k1 := h1
  have lt1 : ∀ x ∈ p1, x.block < W.heap.size := by obtain ⟨m, hm⟩ := k1; exact DataW.trod_lt m _ _ _ hm
  have w1 : Elems W a1 len1 [.i .i64, .i .u32, .i .u32] := by
    obtain ⟨fuel, hf⟩ := h1
    exact open_elems (n := 20) Try.underlying43 (by kernel_rfl : flat Try.prog 20 49 = some [.i .i64, .i .u32, .i .u32]) (by kernel_rfl) (by decide) hf
  clear hA0 hval0
  refine (walk a0 w0 a1 len1 cap1 W w1).mono fun e W' ⟨he, hg⟩ => ?_
  subst he
  have bel := hg.below
  exact ⟨_, rfl, _, _, _, [], _, [], hW', trodAll_mk1 (shut_bool Try.underlying4 _), (trodAll_cons_mk (shut_int Try.underlying3 w0) (trodAll_cons_mk (Below.trod laidOut (by kernel_rfl) (of_decide_eq_true (by kernel_rfl)) k1 bel lt1) trodAll_mk0)), rfl, bel.frame _, fun h => by cases h⟩
theorem over : Rows.quarantinePlaysRow.holds Try.pinned (OpenSpec.ofChange Rows.quarantinePlaysSpec) :=
  OpenClaim.holds_of_wide 5 Try.f5 rfl rfl rfl rfl rfl rfl rfl ⟨rfl, rfl, rfl, rfl, rfl⟩ rfl rfl rfl rfl rfl (by kernel_rfl) Try.func5 (by kernel_rfl)
    (of_decide_eq_true (by kernel_rfl)) (by unfold Func.isWrapper; first | (rw [if_pos (by decide +kernel)]; kernel_rfl) | (rw [if_neg (by decide +kernel)]; exact ⟨rfl, rfl⟩))
    (fun os started H enc _ => lifted os started H enc)
/-- The statement, proved. -/
theorem proved : Rows.QuarantinePlaysSaid :=
  over
end quarantinePlays
end Go.Proofs.Ytflhpgfnffmimaa
