/-
  A step of a yard; whether steps free a region. Condition: the steps are bytes.
-/



import Derived.Test.YtflhpgfnffmimaaDrain
set_option linter.unusedVariables false
namespace Go.Proofs.Ytflhpgfnffmimaa
open Go.ChangeShapes Go.WideShapes Go.ChangeAt Go.RowKit
namespace drn
open once
section
variable {w0 w w' w'' : World} {y : Nat} {m m' : MS} {s s' : YS}
theorem Turn.pre (h : Turn w0 w' y s m' w'' s') (f : Fr [] w w') : Turn w0 w y s m' w'' s' := ⟨h.yw, (f.more (T := s.foot) (by simp)).trans h.f (fun k hk => .inl hk), fun k hk => by
  have := f.size
  rcases h.foot k hk with h | h
  · exact .inl h
  · exact .inr (by omega)⟩
end
set_option maxRecDepth 100000 in
theorem step_any {w0 w : World} {y : Nat} {σ : St} {s : YS} (h : Yw w0 w y σ.ms s) (ok : σ.Ok) (he : σ.ep < 1000000) (x : Nat) (hx : x < 256) :
    Calls Try.prog 13 #[.pointer (some ⟨y, 0, none⟩), .int .u8 x] w fun e w' => (∃ v, e = .returned v) ∧ ∃ s', Turn w0 w y s (stp σ x).ms w' s' := by
  have HY := Lib.hid h
  by_cases h1 : x < 200
  · have hxi : (x : Int) < 200 := by omega
    have v1 : IntKind.u32.wrap (x : Int) = x := by simp [IntKind.wrap, IntKind.signed, IntKind.bits]; omega
    obtain ⟨X, hX⟩ : ∃ X, 16 * x = X := ⟨_, rfl⟩
    have v2 : IntKind.u32.wrap (16 * (x : Int)) = (X : Int) := by simp [IntKind.wrap, IntKind.signed, IntKind.bits]; omega
    have CF := Lib.hid fun W s (h : Yw w0 W y σ.ms s) => (show Calls Try.prog 9 #[.pointer (some ⟨y, 0, none⟩), .agg #[.int .u32 (X : Int), .int .u32 16]] W fun e w' => (∃ b : Bool, e = .returned (.bool b)) ∧ ∃ s', Turn w0 W y s (stp σ x).ms w' s' from by
      have h := free_m h X 16 (by omega) (by omega)
      rw [← hX, stp_free ok x h1, hX] at h
      exact h.mono fun e w' h => ⟨⟨_, h.1⟩, h.2⟩)
    obtain ⟨M, hM⟩ : ∃ M, (stp σ x).ms = M := ⟨_, rfl⟩
    rw [hM] at CF ⊢
    clear hX hM h
    go_enter Try.func13, Try.ntmps13
    go_wp2_with fail
    refine (region_any _ _ _).mono ?_
    rintro e w4 ⟨rfl, hf4⟩
    go_wp2_with fail
    refine (CF.out _ _ (HY.out.fr hf4)).mono ?_
    rintro e w5 ⟨⟨b, rfl⟩, s5, h5⟩
    go_wp2_with fail
    go_end0
    exact ⟨⟨_, rfl⟩, s5, Turn.pre h5 hf4⟩
  · have hxi : ¬ (x : Int) < 200 := by omega
    by_cases h2 : x < 228
    · have hxj : (x : Int) < 228 := by omega
      have CB := Lib.hid fun W s (h : Yw w0 W y σ.ms s) => (show Calls Try.prog 11 #[.pointer (some ⟨y, 0, none⟩)] W fun e w' => (∃ (E : Int) (b : Bool), e = .returned (.tuple #[.int .u64 E, .bool b])) ∧ ∃ s', Turn w0 W y s (stp σ x).ms w' s' from by
        have h := begin_m h he
        rw [stp_begin ok x h1 h2] at h
        exact h.mono fun e w' h => ⟨⟨_, _, h.1⟩, h.2⟩)
      obtain ⟨M, hM⟩ : ∃ M, (stp σ x).ms = M := ⟨_, rfl⟩
      rw [hM] at CB ⊢
      clear hM h
      go_enter Try.func13, Try.ntmps13
      go_wp2_with fail
      refine (CB.out _ _ HY.out).mono ?_
      rintro e w5 ⟨⟨E, b, rfl⟩, s5, h5⟩
      go_wp2_with fail
      go_end0
      exact ⟨⟨_, rfl⟩, s5, h5⟩
    · have hxj : ¬ (x : Int) < 228 := by omega
      have CE := Lib.hid fun W s (h : Yw w0 W y σ.ms s) => (show Calls Try.prog 12 #[.pointer (some ⟨y, 0, none⟩)] W fun e w' => (∃ v, e = .returned v) ∧ ∃ s', Turn w0 W y s (stp σ x).ms w' s' from by
        have h := end_m h
        rw [stp_end ok x h1 h2] at h
        exact h.mono fun e w' h => by
          obtain ⟨v, e1, -, -, h4⟩ := h
          exact ⟨⟨v, e1⟩, h4⟩)
      obtain ⟨M, hM⟩ : ∃ M, (stp σ x).ms = M := ⟨_, rfl⟩
      rw [hM] at CE ⊢
      clear hM h
      go_enter Try.func13, Try.ntmps13
      go_wp2_with fail
      refine (CE.out _ _ HY.out).mono ?_
      rintro e w5 ⟨⟨v, rfl⟩, s5, h5⟩
      go_wp2_with fail
      go_end0
      exact ⟨⟨_, rfl⟩, s5, h5⟩
set_option maxHeartbeats 2000000 in
set_option maxRecDepth 100000 in
theorem freed_any (w : World) (a : Option Addr) (n c b off : Nat) (ha : n = 0 ∨ a = some ⟨b, off, none⟩) (hn : n ≤ 1000) (zk : Nat → Nat) (hzb : ∀ i, i < n → zk i < 256) (hb : 0 < n → b < w.heap.size) (hc : ∀ i, i < n → w.cell? ⟨b, off + i, none⟩ = some (.int .u8 (zk i : Nat)))
    (x : Nat) (hx : x < 200) (hex : ∃ j, j < n ∧ zk j = x) (hnc : n ≤ c) :
    Calls Try.prog 19 #[.slice a n c, .agg #[.int .u32 (16 * x : Nat), .int .u32 16]] w fun e w' => e = .returned (.bool true) ∧ Fr [] w w' := by
  have hn0 : 0 < n := by obtain ⟨j, hj, _⟩ := hex; omega
  obtain rfl : a = some ⟨b, off, none⟩ := ha.resolve_left (by omega)
  obtain ⟨X, hX⟩ : ∃ X, 16 * x = X := ⟨_, rfl⟩
  rw [hX]
  have HX := Lib.hid hX
  have HZB := Lib.hid hzb
  have HB := Lib.hid (hb hn0)
  have HC := Lib.hid hc
  have HE := Lib.hid hex
  clear ha hzb hb hc hex hX
  have A0 := Lib.hid (At.new w 30 #[.int .u32 (X : Int), .int .u32 16])
  have F0 := Lib.hid (show Fr [] w (w.alloc (.cells #[.int .u32 (X : Int), .int .u32 16] 30)) from (by repeat (first | exact Fr.refl _ _ | assumption | refine Fr.trans0 ?_ (by assumption) | refine Fr.drewN ?_ _ | refine Fr.alloc ?_ _ | refine Fr.drew ?_)))
  go_enter Try.func19, Try.ntmps19
  go_wp2_with fail
  obtain ⟨w3, hw3⟩ : ∃ W, w.alloc (.cells #[.int .u32 (X : Int), .int .u32 16] 30) = W := ⟨_, rfl⟩
  rw [hw3] at A0 F0 ⊢
  obtain ⟨q, hq⟩ : ∃ q, w.heap.size = q := ⟨_, rfl⟩
  rw [hq] at A0 ⊢
  clear hw3 hq
  go_loopw [5] (fun i wr => ∃ k : Nat, k ≤ n ∧ i = .int .i64 k ∧ (∀ j, j < k → zk j ≠ x) ∧ Fr [] w wr ∧ At wr q 30 #[.int .u32 (X : Int), .int .u32 16]) (fun i _ => n - (intOf i).toNat)
  case atStart => exact ⟨0, by omega, rfl, fun j hj => by omega, F0.out, A0.out⟩
  case round =>
    clear A0 F0
    obtain ⟨k, hk, rfl, hno, hf, hat⟩ := hrel
    have HNO := Lib.hid hno
    have HF := Lib.hid hf
    have HA := Lib.hid hat
    clear hno hf hat
    by_cases h1 : k < n
    · have hz := (HF.out.cell (a := ⟨b, off + k, none⟩) HB.out (by simp)).trans (HC.out k h1)
      have hbz := HZB.out k h1
      have HBW := Lib.hid (lt_of_cell hz)
      obtain ⟨z, hzz⟩ : ∃ z, zk k = z := ⟨_, rfl⟩
      rw [hzz] at hz hbz
      have HZZ := Lib.hid hzz
      clear hzz
      by_cases h2 : z < 200
      · have hzi : (z : Int) < 200 := by omega
        have v1 : IntKind.u32.wrap (z : Int) = z := by simp [IntKind.wrap, IntKind.signed, IntKind.bits]; omega
        obtain ⟨Z, hZ⟩ : ∃ X, 16 * z = X := ⟨_, rfl⟩
        have v2 : IntKind.u32.wrap (16 * (z : Int)) = (Z : Int) := by simp [IntKind.wrap, IntKind.signed, IntKind.bits]; omega
        have HZ := Lib.hid hZ
        have EQ := fun w => rg_eq (Z : Int) 16 X 16 w
        simp only [decide_true, Bool.and_true] at EQ
        obtain ⟨B, hB⟩ : ∃ B, decide ((Z : Int) = (X : Int)) = B := ⟨_, rfl⟩
        simp only [hB] at EQ
        have HBB := Lib.hid hB
        clear hZ hB
        go_wp2_with fail
        refine wp_region_L (fun W => Fr [] wr W ∧ At W q 30 #[.int .u32 (X : Int), .int .u32 16]) [] (by kernel_rfl) ⟨(Fr.refl _ _).drew, HA.out.hp rfl⟩ (fun hHeld => ?_)
        refine wpAnyL_take (i := 0) (v := ?_) rfl (by kernel_rfl) (fun _ _ _ h => h) (Or.inl ⟨by rfl, ?_⟩) (by assumption) ?_; rotate_left; (focus (intro w hSw; skip; go_simp; (try with_reducible rfl))); (try (refine wpAnyL_norm (by simp only [Act.put, List.setIfInBounds_toArray, List.set_cons_zero, List.set_cons_succ]; rfl) ?_))
        refine wpAnyL_take (i := 1) (v := ?_) rfl (by kernel_rfl) (fun _ _ _ h => h) (Or.inl ⟨by rfl, ?_⟩) (by assumption) ?_; rotate_left; (focus (intro w hSw; skip; go_simp; (try with_reducible rfl))); (try (refine wpAnyL_norm (by simp only [Act.put, List.setIfInBounds_toArray, List.set_cons_zero, List.set_cons_succ]; rfl) ?_))
        refine wpAnyL_take (i := 2) (v := ?_) rfl (by kernel_rfl) (fun _ _ _ h => h) (Or.inl ⟨by rfl, ?_⟩) (by assumption) ?_; rotate_left; (focus (intro w hSw; skip; go_simp; (try with_reducible rfl))); (try (refine wpAnyL_norm (by simp only [Act.put, List.setIfInBounds_toArray, List.set_cons_zero, List.set_cons_succ]; rfl) ?_))
        refine wpAnyL_take (i := 3) (v := ?_) rfl (by kernel_rfl) (fun _ _ _ h => h) (Or.inl ⟨by rfl, ?_⟩) (by assumption) ?_; rotate_left; (focus (intro w hSw; (have cc := (hSw.1.cell (a := ⟨b, off + k, none⟩) HBW.out (by simp)).trans hz); go_simp; (try with_reducible rfl))); (try (refine wpAnyL_norm (by simp only [Act.put, List.setIfInBounds_toArray, List.set_cons_zero, List.set_cons_succ]; rfl) ?_))
        refine wpAnyL_take (i := 4) (v := ?_) rfl (by kernel_rfl) (fun _ _ _ h => h) (Or.inl ⟨by rfl, ?_⟩) (by assumption) ?_; rotate_left; (focus (intro w hSw; skip; go_simp; (try with_reducible rfl))); (try (refine wpAnyL_norm (by simp only [Act.put, List.setIfInBounds_toArray, List.set_cons_zero, List.set_cons_succ]; rfl) ?_))
        refine wpAnyL_take (i := 5) (v := ?_) rfl (by kernel_rfl) (fun _ _ _ h => h) (Or.inl ⟨by rfl, ?_⟩) (by assumption) ?_; rotate_left; (focus (intro w hSw; skip; go_simp; (try with_reducible rfl))); (try (refine wpAnyL_norm (by simp only [Act.put, List.setIfInBounds_toArray, List.set_cons_zero, List.set_cons_succ]; rfl) ?_))
        refine wpAnyL_take (i := 6) (v := ?_) rfl (by kernel_rfl) (fun _ _ _ h => h) (Or.inl ⟨by rfl, ?_⟩) (by assumption) ?_; rotate_left; (focus (intro w hSw; skip; go_simp; (try with_reducible rfl))); (try (refine wpAnyL_norm (by simp only [Act.put, List.setIfInBounds_toArray, List.set_cons_zero, List.set_cons_succ]; rfl) ?_))
        refine wpAnyL_take (i := 7) (v := ?_) rfl (by kernel_rfl) (fun _ _ _ h => h) (Or.inl ⟨by rfl, ?_⟩) (by assumption) ?_; rotate_left; (focus (intro w hSw; skip; go_simp; (try with_reducible rfl))); (try (refine wpAnyL_norm (by simp only [Act.put, List.setIfInBounds_toArray, List.set_cons_zero, List.set_cons_succ]; rfl) ?_))
        refine wpAnyL_take (i := 8) (v := ?_) rfl (by kernel_rfl) (fun _ _ _ h => h) (Or.inl ⟨by rfl, ?_⟩) (by assumption) ?_; rotate_left; (focus (intro w hSw; skip; go_simp; (try with_reducible rfl))); (try (refine wpAnyL_norm (by simp only [Act.put, List.setIfInBounds_toArray, List.set_cons_zero, List.set_cons_succ]; rfl) ?_))
        refine wpAnyL_take (i := 9) (v := ?_) rfl (by kernel_rfl) (fun _ _ _ h => h) (Or.inl ⟨by rfl, ?_⟩) (by assumption) ?_; rotate_left; (focus (intro w hSw; (have cc := (hSw.1.cell (a := ⟨b, off + k, none⟩) HBW.out (by simp)).trans hz); go_simp; (try with_reducible rfl))); (try (refine wpAnyL_norm (by simp only [Act.put, List.setIfInBounds_toArray, List.set_cons_zero, List.set_cons_succ]; rfl) ?_))
        refine wpAnyL_take (i := 10) (v := ?_) rfl (by kernel_rfl) (fun _ _ _ h => h) (Or.inl ⟨by rfl, ?_⟩) (by assumption) ?_; rotate_left; (focus (intro w hSw; skip; go_simp; (try with_reducible rfl))); (try (refine wpAnyL_norm (by simp only [Act.put, List.setIfInBounds_toArray, List.set_cons_zero, List.set_cons_succ]; rfl) ?_))
        refine wpAnyL_take (i := 11) (v := ?_) rfl (by kernel_rfl) (fun _ _ _ h => h) (Or.inl ⟨by rfl, ?_⟩) (by assumption) ?_; rotate_left; (focus (intro w hSw; skip; go_simp; (try with_reducible rfl))); (try (refine wpAnyL_norm (by simp only [Act.put, List.setIfInBounds_toArray, List.set_cons_zero, List.set_cons_succ]; rfl) ?_))
        refine wpAnyL_take (i := 13) rfl (by kernel_rfl) (fun _ _ _ h => h) (yields_load_at 30 (.tmp 3) rfl ⟨q, 0, none⟩ rfl [.int .u32 X, .int .u32 16] _ (fun W h => two_at h.2 0 _ _ rfl rfl) Try.underlying30 rfl infoRgS rfl) (by assumption) ?_; (try (refine wpAnyL_norm (by simp only [Act.put, List.setIfInBounds_toArray, List.set_cons_zero, List.set_cons_succ]; rfl) ?_))
        refine wpAnyL_ready (rs := [12]) (by kernel_rfl) (by simp) ?_; refine AllReadyL.cons rfl (fun K hK => ?_) AllReadyL.nil
        go_simp
        refine (region_any _ _ _).mono ?_
        rintro e w6 ⟨rfl, hf6⟩
        have hh6 := And.intro (hHeld.1.trans0 hf6) (hHeld.2.fr hf6 (by simp))
        refine hK.out _ _ (fun _ => hh6) (fun hHeld' => ?_); have hHeld := hHeld' (by decide); clear hHeld' hK K; (try (refine wpAnyL_norm (by simp only [Act.put, List.setIfInBounds_toArray, List.set_cons_zero, List.set_cons_succ]; rfl) ?_))
        refine wpAnyL_take (i := 14) (v := ?_) rfl (by kernel_rfl) (fun _ _ _ h => h) (Or.inl ⟨by rfl, ?_⟩) (by assumption) ?_; rotate_left; (focus (intro w hSw; skip; go_simp; (try with_reducible rfl))); (try (refine wpAnyL_norm (by simp only [Act.put, List.setIfInBounds_toArray, List.set_cons_zero, List.set_cons_succ]; rfl) ?_))
        refine wpAnyL_take (i := 15) (v := ?_) rfl (by kernel_rfl) (fun _ _ _ h => h) (Or.inl ⟨by rfl, ?_⟩) (by assumption) ?_; rotate_left; (focus (intro w hSw; skip; go_simp; (try with_reducible rfl))); (try (refine wpAnyL_norm (by simp only [Act.put, List.setIfInBounds_toArray, List.set_cons_zero, List.set_cons_succ]; rfl) ?_))
        refine wpAnyL_done (by kernel_rfl) ?_ _
        have F6 := Lib.hid (HF.out.trans0 hHeld.1)
        have A6 := Lib.hid hHeld.2
        cases B with
        | true =>
          go_wp2_with fail
          go_ret
          exact ⟨rfl, F6.out⟩
        | false =>
          have hne : z ≠ x := fun e => by
            have h1 := HX.out
            have h2 := HZ.out
            have h3 := of_decide_eq_false HBB.out
            omega
          have HNE := Lib.hid hne
          clear hne
          go_wp2_with fail
          go_roundw
          case rel => exact ⟨k + 1, by omega, by go_num, fun j hj => by
            by_cases e' : j = k
            · rw [e', HZZ.out]; exact HNE.out
            · exact HNO.out j (by omega), F6.out, A6.out⟩
          case measure => simp [intOf]; omega
      · have hzi : ¬ (z : Int) < 200 := by omega
        have d1 : decide (z < 200) = false := by simpa using h2
        have d2 : decide ((z : Int) < 200) = false := by simpa using hzi
        have d3 : (z < 200) = False := by simpa using h2
        go_wp2_with fail
        refine wp_region_L (fun W => Fr [] wr W ∧ At W q 30 #[.int .u32 (X : Int), .int .u32 16]) [] (by kernel_rfl) ⟨(Fr.refl _ _).drew, HA.out.hp rfl⟩ (fun hHeld => ?_)
        refine wpAnyL_take (i := 0) (v := ?_) rfl (by kernel_rfl) (fun _ _ _ h => h) (Or.inl ⟨by rfl, ?_⟩) (by assumption) ?_; rotate_left; (focus (intro w hSw; skip; go_simp; (try with_reducible rfl))); (try (refine wpAnyL_norm (by simp only [Act.put, List.setIfInBounds_toArray, List.set_cons_zero, List.set_cons_succ]; rfl) ?_))
        refine wpAnyL_take (i := 1) (v := ?_) rfl (by kernel_rfl) (fun _ _ _ h => h) (Or.inl ⟨by rfl, ?_⟩) (by assumption) ?_; rotate_left; (focus (intro w hSw; skip; go_simp; (try with_reducible rfl))); (try (refine wpAnyL_norm (by simp only [Act.put, List.setIfInBounds_toArray, List.set_cons_zero, List.set_cons_succ]; rfl) ?_))
        refine wpAnyL_take (i := 2) (v := ?_) rfl (by kernel_rfl) (fun _ _ _ h => h) (Or.inl ⟨by rfl, ?_⟩) (by assumption) ?_; rotate_left; (focus (intro w hSw; skip; go_simp; (try with_reducible rfl))); (try (refine wpAnyL_norm (by simp only [Act.put, List.setIfInBounds_toArray, List.set_cons_zero, List.set_cons_succ]; rfl) ?_))
        refine wpAnyL_take (i := 3) (v := ?_) rfl (by kernel_rfl) (fun _ _ _ h => h) (Or.inl ⟨by rfl, ?_⟩) (by assumption) ?_; rotate_left; (focus (intro w hSw; (have cc := (hSw.1.cell (a := ⟨b, off + k, none⟩) HBW.out (by simp)).trans hz); go_simp; (try with_reducible rfl))); (try (refine wpAnyL_norm (by simp only [Act.put, List.setIfInBounds_toArray, List.set_cons_zero, List.set_cons_succ]; rfl) ?_))
        refine wpAnyL_take (i := 4) (v := ?_) rfl (by kernel_rfl) (fun _ _ _ h => h) (Or.inl ⟨by rfl, ?_⟩) (by assumption) ?_; rotate_left; (focus (intro w hSw; skip; go_simp; (try with_reducible rfl))); (try (refine wpAnyL_norm (by simp only [Act.put, List.setIfInBounds_toArray, List.set_cons_zero, List.set_cons_succ]; rfl) ?_))
        refine wpAnyL_take (i := 5) (v := ?_) rfl (by kernel_rfl) (fun _ _ _ h => h) (Or.inl ⟨by rfl, ?_⟩) (by assumption) ?_; rotate_left; (focus (intro w hSw; skip; go_simp; (try with_reducible rfl))); (try (refine wpAnyL_norm (by simp only [Act.put, List.setIfInBounds_toArray, List.set_cons_zero, List.set_cons_succ]; rfl) ?_))
        refine wpAnyL_take (i := 6) (v := undef) rfl (by kernel_rfl) (fun _ _ _ h => h) (Or.inr ⟨by rfl, rfl⟩) (by assumption) ?_; (try (refine wpAnyL_norm (by simp only [Act.put, List.setIfInBounds_toArray, List.set_cons_zero, List.set_cons_succ]; rfl) ?_))
        refine wpAnyL_take (i := 7) (v := undef) rfl (by kernel_rfl) (fun _ _ _ h => h) (Or.inr ⟨by rfl, rfl⟩) (by assumption) ?_; (try (refine wpAnyL_norm (by simp only [Act.put, List.setIfInBounds_toArray, List.set_cons_zero, List.set_cons_succ]; rfl) ?_))
        refine wpAnyL_take (i := 8) (v := undef) rfl (by kernel_rfl) (fun _ _ _ h => h) (Or.inr ⟨by rfl, rfl⟩) (by assumption) ?_; (try (refine wpAnyL_norm (by simp only [Act.put, List.setIfInBounds_toArray, List.set_cons_zero, List.set_cons_succ]; rfl) ?_))
        refine wpAnyL_take (i := 9) (v := undef) rfl (by kernel_rfl) (fun _ _ _ h => h) (Or.inr ⟨by rfl, rfl⟩) (by assumption) ?_; (try (refine wpAnyL_norm (by simp only [Act.put, List.setIfInBounds_toArray, List.set_cons_zero, List.set_cons_succ]; rfl) ?_))
        refine wpAnyL_take (i := 10) (v := undef) rfl (by kernel_rfl) (fun _ _ _ h => h) (Or.inr ⟨by rfl, rfl⟩) (by assumption) ?_; (try (refine wpAnyL_norm (by simp only [Act.put, List.setIfInBounds_toArray, List.set_cons_zero, List.set_cons_succ]; rfl) ?_))
        refine wpAnyL_take (i := 11) (v := undef) rfl (by kernel_rfl) (fun _ _ _ h => h) (Or.inr ⟨by rfl, rfl⟩) (by assumption) ?_; (try (refine wpAnyL_norm (by simp only [Act.put, List.setIfInBounds_toArray, List.set_cons_zero, List.set_cons_succ]; rfl) ?_))
        refine wpAnyL_take (i := 12) (v := undef) rfl (by kernel_rfl) (fun _ _ _ h => h) (Or.inr ⟨by rfl, rfl⟩) (by assumption) ?_; (try (refine wpAnyL_norm (by simp only [Act.put, List.setIfInBounds_toArray, List.set_cons_zero, List.set_cons_succ]; rfl) ?_))
        refine wpAnyL_take (i := 13) (v := undef) rfl (by kernel_rfl) (fun _ _ _ h => h) (Or.inr ⟨by rfl, rfl⟩) (by assumption) ?_; (try (refine wpAnyL_norm (by simp only [Act.put, List.setIfInBounds_toArray, List.set_cons_zero, List.set_cons_succ]; rfl) ?_))
        refine wpAnyL_take (i := 14) (v := undef) rfl (by kernel_rfl) (fun _ _ _ h => h) (Or.inr ⟨by rfl, rfl⟩) (by assumption) ?_; (try (refine wpAnyL_norm (by simp only [Act.put, List.setIfInBounds_toArray, List.set_cons_zero, List.set_cons_succ]; rfl) ?_))
        refine wpAnyL_take (i := 15) (v := ?_) rfl (by kernel_rfl) (fun _ _ _ h => h) (Or.inl ⟨by rfl, ?_⟩) (by assumption) ?_; rotate_left; (focus (intro w hSw; skip; go_simp; (try with_reducible rfl))); (try (refine wpAnyL_norm (by simp only [Act.put, List.setIfInBounds_toArray, List.set_cons_zero, List.set_cons_succ]; rfl) ?_))
        refine wpAnyL_done (by kernel_rfl) ?_ _
        have F6 := Lib.hid (HF.out.trans0 hHeld.1)
        have A6 := Lib.hid hHeld.2
        go_wp2_with fail
        go_roundw
        case rel => exact ⟨k + 1, by omega, by go_num, fun j hj => by
          by_cases e' : j = k
          · rw [e', HZZ.out]; omega
          · exact HNO.out j (by omega), F6.out, A6.out⟩
        case measure => simp [intOf]; omega
    · obtain rfl : k = n := by omega
      obtain ⟨j, hj, e⟩ := HE.out
      exact absurd e (HNO.out j hj)
end drn
end Go.Proofs.Ytflhpgfnffmimaa
