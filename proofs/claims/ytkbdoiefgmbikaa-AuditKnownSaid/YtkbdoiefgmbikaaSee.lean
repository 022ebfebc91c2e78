/-
  An event, in a history. No condition.
-/


import Derived.Test.YtkbdoiefgmbikaaGrant
import Derived.Test.YtkbdoiefgmbikaaBegin
import Derived.Test.YtkbdoiefgmbikaaFin
import Derived.Test.YtkbdoiefgmbikaaDrain
import Derived.Deep.CutBlock
import Derived.Deep.DeepCutAuto
import Derived.BigRegion
set_option linter.unusedVariables false
namespace Go.Proofs.Ytkbdoiefgmbikaa
open Go.ChangeShapes Go.WideShapes Go.ChangeAt Go.RowKit
def gz : Gr := ⟨0, 0, 0, false, false, 0⟩
theorem find_of {x : Sx} {e : Ev} {g : Gr} (h : (findG x.gs e.num).getD gz = g) (hd : isB x e = true) : findG x.gs e.num = some g := by
  unfold isB at hd
  cases hf : findG x.gs e.num with
  | none => rw [hf] at hd; cases hd
  | some g0 => rw [hf] at h; rw [← h]; rfl
theorem release_bad {x : Sx} {e : Ev} {g : Gr} (h : (findG x.gs e.num).getD gz = g) (hb : x.sw = false ∨ isB x e = false ∨ g.batch = false) : releaseS x e = (8, x) := by
  unfold releaseS
  cases hf : findG x.gs e.num with
  | none => rfl
  | some g0 =>
    rw [hf] at h
    have : g0 = g := by rw [← h]; rfl
    subst this
    dsimp only
    rw [if_pos hb]
theorem release_good {x : Sx} {e : Ev} {g : Gr} (h : (findG x.gs e.num).getD gz = g) (h1 : x.sw = true) (h2 : isB x e = true) (h3 : g.batch = true) : releaseS x e = (0, { x with gs := x.gs.filter fun g => !(g.n == e.num) }) := by
  unfold releaseS
  rw [find_of h h2]
  dsimp only
  rw [if_neg (by rw [h1, h2, h3]; simp)]
theorem free_bad {x : Sx} {e : Ev} {g : Gr} {i : Nat} (h : (findG x.gs e.num).getD gz = g) (hb : isB x e = false ∨ g.rests = true) : freeS x e i = (5, x) := by
  unfold freeS
  cases hf : findG x.gs e.num with
  | none => rfl
  | some g0 =>
    rw [hf] at h
    have : g0 = g := by rw [← h]; rfl
    subst this
    dsimp only
    rw [if_pos hb]
theorem free_good {x : Sx} {e : Ev} {g : Gr} {i : Nat} (h : (findG x.gs e.num).getD gz = g) (h2 : isB x e = true) (h3 : g.rests = false) : freeS x e i = (0, { x with gs := x.gs.map fun g => if g.n = e.num then { g with rests := true, freed := i } else g }) := by
  unfold freeS
  rw [find_of h h2]
  dsimp only
  rw [if_neg (by rw [h2, h3]; simp)]
set_option maxHeartbeats 4000000 in
set_option maxRecDepth 100000 in
theorem psee_any (w : World) (p bg ba ha hs : Nat) (x : Sx) (i : Nat) (h : Past w p bg ba ha hs x i) (hi : i < 1048576) (e : Ev) (he : e.Ok) :
    Calls Try.prog 37 #[.pointer (some ⟨p, 0, none⟩), .agg e.cells, .int .i64 i] w fun r w' => r = .returned (.int .i64 (seeS ha hs x e i).1) ∧ Past w' p bg ba ha hs (seeS ha hs x e i).2 (i + 1) ∧ Fr [p, bg, ba] w w' := by
  have hlp := h.at_.lt
  have hlg := h.gm.lt
  have hla := h.am.lt
  have HP := Lib.hid h
  have HM := Lib.hid h.more
  have hb1 := h.h1
  have hb2 := h.h2
  have HEO := Lib.hid he
  have GG := Lib.hid (good_see (ha := ha) (hs := hs) (i := i) h.good he.1 he.2.1)
  have hen := he.2.2.1
  have hbp : bg ≠ p := h.gm.ne h.at_
  have hap : ba ≠ p := h.am.ne h.at_
  have hba := h.ne
  have A3 := Lib.hid (At.new w 41 e.cells)
  have F3 := Lib.hid (show Fr [] w (w.alloc (.cells e.cells 41)) from (by repeat (first | exact Fr.refl _ _ | assumption | refine Fr.trans0 ?_ (by assumption) | refine Fr.drewN ?_ _ | refine Fr.alloc ?_ _ | refine Fr.drew ?_)))
  have AP := Lib.hid (h.at_.fr F3.out (by simp))
  have GP := Lib.hid (h.gm.fr0 F3.out)
  obtain ⟨g, hg⟩ : ∃ g, (findG x.gs e.num).getD gz = g := ⟨_, rfl⟩
  obtain ⟨I, hI⟩ : ∃ I, (findG x.gs e.num).isSome = I := ⟨_, rfl⟩
  have hval : (if true then Value.tuple #[(gF x.gs e.num).getD (.agg #[.int .u32 0, .int .u32 0, .bool false, .bool false, .int .i64 0]), .bool (gF x.gs e.num).isSome] else (gF x.gs e.num).getD (.agg #[.int .u32 0, .int .u32 0, .bool false, .bool false, .int .i64 0])) = Value.tuple #[.agg #[.int .u32 g.a, .int .u32 g.s, .bool g.rests, .bool g.batch, .int .i64 g.freed], .bool I] := by
    rw [if_pos rfl]
    unfold gF
    rw [gO_nat, ← hI, ← hg]
    cases findG x.gs e.num <;> rfl
  have HV := Lib.hid hval
  clear h he hval
  obtain ⟨R, hR⟩ : ∃ R, seeS ha hs x e i = R := ⟨_, rfl⟩
  rw [hR] at GG ⊢
  have HG := Lib.hid hg
  have HI := Lib.hid hI
  have HR := Lib.hid hR
  clear hg hI hR
  go_enter Try.func37, Try.ntmps37
  simp only [Ev.cells]
  go_upto_region 1 with (fail)
  go_cut [7, 8] (fun s7 s8 wx => s7 = .pointer (some ⟨w.heap.size + 1, 0, none⟩) ∧ s8 = .bool I ∧ At wx (w.heap.size + 1) 91 #[.int .u32 g.a, .int .u32 g.s, .bool g.rests, .bool g.batch, .int .i64 g.freed] ∧ At wx w.heap.size 41 e.cells ∧ Fr [] w wx)
  case first =>
    refine wp_region_L (fun W => At W w.heap.size 41 e.cells ∧ At W p 76 (x.cells ha hs bg ba) ∧ Mp Try.prog 39 .u64 W bg i (gF x.gs) ∧ Fr [] w W) [] (by kernel_rfl) ⟨A3.out.hp rfl, AP.out.hp rfl, GP.out, F3.out.drew⟩ (fun hHeld => ?_)
    refine wpAnyL_take (i := 0) (v := ?_) rfl (by kernel_rfl) (fun _ _ _ h => h) (Or.inl ⟨by rfl, ?_⟩) (by assumption) ?_; rotate_left; (focus (intro w hSw; skip; go_simp; (try with_reducible rfl))); (try (refine wpAnyL_norm (by simp only [Act.put, List.setIfInBounds_toArray, List.set_cons_zero, List.set_cons_succ]; rfl) ?_))
    refine wpAnyL_take (i := 1) (v := ?_) rfl (by kernel_rfl) (fun _ _ _ h => h) (Or.inl ⟨by rfl, ?_⟩) (by assumption) ?_; rotate_left; (focus (intro w hSw; skip; go_simp; (try with_reducible rfl))); (try (refine wpAnyL_norm (by simp only [Act.put, List.setIfInBounds_toArray, List.set_cons_zero, List.set_cons_succ]; rfl) ?_))
    refine wpAnyL_take (i := 2) (v := ?_) rfl (by kernel_rfl) (fun _ _ _ h => h) (Or.inl ⟨by rfl, ?_⟩) (by assumption) ?_; rotate_left; (focus (intro w hSw; skip; go_simp; (try with_reducible rfl))); (try (refine wpAnyL_norm (by simp only [Act.put, List.setIfInBounds_toArray, List.set_cons_zero, List.set_cons_succ]; rfl) ?_))
    refine wpAnyL_take (i := 3) (v := ?_) rfl (by kernel_rfl) (fun _ _ _ h => h) (Or.inl ⟨by rfl, ?_⟩) (by assumption) ?_; rotate_left; (focus (intro w hSw; have c : _ = some (Value.map (some bg)) := hSw.2.1.cell 2; go_simp; (try with_reducible rfl))); (try (refine wpAnyL_norm (by simp only [Act.put, List.setIfInBounds_toArray, List.set_cons_zero, List.set_cons_succ]; rfl) ?_))
    refine wpAnyL_take (i := 4) (v := ?_) rfl (by kernel_rfl) (fun _ _ _ h => h) (Or.inl ⟨by rfl, ?_⟩) (by assumption) ?_; rotate_left; (focus (intro w hSw; skip; go_simp; (try with_reducible rfl))); (try (refine wpAnyL_norm (by simp only [Act.put, List.setIfInBounds_toArray, List.set_cons_zero, List.set_cons_succ]; rfl) ?_))
    refine wpAnyL_take (i := 5) (v := ?_) rfl (by kernel_rfl) (fun _ _ _ h => h) (Or.inl ⟨by rfl, ?_⟩) (by assumption) ?_; rotate_left; (focus (intro w hSw; have c : _ = some (Value.int .u64 (e.num : Int)) := hSw.1.cell 3; go_simp; (try with_reducible rfl))); (try (refine wpAnyL_norm (by simp only [Act.put, List.setIfInBounds_toArray, List.set_cons_zero, List.set_cons_succ]; rfl) ?_))
    refine wpAnyL_take (i := 6) rfl (by kernel_rfl) (fun _ _ _ h => h) (yields_mlook (.tmp 15) (.tmp 17) 73 true rfl (fun W hW => hW.2.2.1) Try.underlying39 91 Try.underlying73 _ zeroGr e.num rfl rfl (wf_u64 _ hen) _ HV.out rfl) (by assumption) ?_; (try (refine wpAnyL_norm (by simp only [Act.put, List.setIfInBounds_toArray, List.set_cons_zero, List.set_cons_succ]; rfl) ?_))
    refine wpAnyL_take (i := 7) (v := ?_) rfl (by kernel_rfl) (fun _ _ _ h => h) (Or.inl ⟨by rfl, ?_⟩) (by assumption) ?_; rotate_left; (focus (intro w hSw; skip; go_simp; (try with_reducible rfl))); (try (refine wpAnyL_norm (by simp only [Act.put, List.setIfInBounds_toArray, List.set_cons_zero, List.set_cons_succ]; rfl) ?_))
    refine wpAnyL_take (i := 8) (v := ?_) rfl (by kernel_rfl) (fun _ _ _ h => h) (Or.inl ⟨by rfl, ?_⟩) (by assumption) ?_; rotate_left; (focus (intro w hSw; skip; go_simp; (try with_reducible rfl))); (try (refine wpAnyL_norm (by simp only [Act.put, List.setIfInBounds_toArray, List.set_cons_zero, List.set_cons_succ]; rfl) ?_))
    have AZ := At.new (w.alloc (.cells e.cells 41)) 91 #[.int .u32 0, .int .u32 0, .bool false, .bool false, .int .i64 0]
    rw [World.size_alloc] at AZ
    have AE := A3.out.old (.cells #[.int .u32 0, .int .u32 0, .bool false, .bool false, .int .i64 0] 91)
    have APp := AP.out.old (.cells #[.int .u32 0, .int .u32 0, .bool false, .bool false, .int .i64 0] 91)
    have AF : Fr [] w ((w.alloc (.cells e.cells 41)).alloc (.cells #[.int .u32 0, .int .u32 0, .bool false, .bool false, .int .i64 0] 91)) := F3.out.alloc _
    have AM : Mp Try.prog 39 .u64 ((w.alloc (.cells e.cells 41)).alloc (.cells #[.int .u32 0, .int .u32 0, .bool false, .bool false, .int .i64 0] 91)) bg i (gF x.gs) := GP.out.fr0 ((Fr.refl _ _).alloc _)
    refine wpAnyL_ready (rs := [9, 10]) (by kernel_rfl) (by simp) ?_
    refine AllReadyL.cons rfl (fun K hK => ?_) (AllReadyL.cons rfl (fun K hK => ?_) AllReadyL.nil)
    · go_simp
      refine hK.out _ _ (fun _ => hHeld) (fun hHeld' => ?_); have hHeld := hHeld' (by decide); clear hHeld' hK K; (try (refine wpAnyL_norm (by simp only [Act.put, List.setIfInBounds_toArray, List.set_cons_zero, List.set_cons_succ]; rfl) ?_))
      refine wpAnyL_ready (rs := [10]) (by kernel_rfl) (by simp) ?_; refine AllReadyL.cons rfl (fun K hK => ?_) AllReadyL.nil
      go_simp
      refine hK.out _ _ (fun _ => ⟨AE.hp rfl, APp.hp rfl, AM.fr0 (Fr.refl _ _).drew, AF.drew⟩) (fun hHeld' => ?_); have hHeld := hHeld' (by decide); clear hHeld' hK K; (try (refine wpAnyL_norm (by simp only [Act.put, List.setIfInBounds_toArray, List.set_cons_zero, List.set_cons_succ]; rfl) ?_))
      refine wpAnyL_ready (rs := [11]) (by kernel_rfl) (by simp) ?_; refine AllReadyL.cons rfl (fun K hK => ?_) AllReadyL.nil
      refine wp_store_y 91 (.tmp 7) (.tmp 19) rfl (w.heap.size + 1) #[.int .u32 g.a, .int .u32 g.s, .bool g.rests, .bool g.batch, .int .i64 g.freed] rfl rfl 91 _ (AZ.hp rfl) infoGr rfl (by simp [Value.oneCell']) ?_
      intro w4 hA4 hF4
      refine hK.out _ _ (fun _ => ⟨hHeld.1.fr hF4 (by simp), hHeld.2.1.fr hF4 (by simp; omega), hHeld.2.2.1.fr hF4 (by simp; omega), hHeld.2.2.2.trans hF4 (by simp)⟩) (fun hHeld' => ?_); have hHeld := hHeld' (by decide); clear hHeld' hK K; (try (refine wpAnyL_norm (by simp only [Act.put, List.setIfInBounds_toArray, List.set_cons_zero, List.set_cons_succ]; rfl) ?_))
      refine wpAnyL_take (i := 12) (v := ?_) rfl (by kernel_rfl) (fun _ _ _ h => h) (Or.inl ⟨by rfl, ?_⟩) (by assumption) ?_; rotate_left; (focus (intro w hSw; skip; go_simp; (try with_reducible rfl))); (try (refine wpAnyL_norm (by simp only [Act.put, List.setIfInBounds_toArray, List.set_cons_zero, List.set_cons_succ]; rfl) ?_))
      refine wpAnyL_done (by kernel_rfl) ?_ _
      go_wp2_with fail
      go_meet
      exact ⟨rfl, rfl, hA4, hHeld.1, hHeld.2.2.2⟩
    · go_simp
      refine hK.out _ _ (fun _ => ⟨AE.hp rfl, APp.hp rfl, AM.fr0 (Fr.refl _ _).drew, AF.drew⟩) (fun hHeld' => ?_); have hHeld := hHeld' (by decide); clear hHeld' hK K; (try (refine wpAnyL_norm (by simp only [Act.put, List.setIfInBounds_toArray, List.set_cons_zero, List.set_cons_succ]; rfl) ?_))
      refine wpAnyL_ready (rs := [9, 11]) (by kernel_rfl) (by simp) ?_
      refine AllReadyL.cons rfl (fun K hK => ?_) (AllReadyL.cons rfl (fun K hK => ?_) AllReadyL.nil)
      · go_simp
        refine hK.out _ _ (fun _ => hHeld) (fun hHeld' => ?_); have hHeld := hHeld' (by decide); clear hHeld' hK K; (try (refine wpAnyL_norm (by simp only [Act.put, List.setIfInBounds_toArray, List.set_cons_zero, List.set_cons_succ]; rfl) ?_))
        refine wpAnyL_ready (rs := [11]) (by kernel_rfl) (by simp) ?_; refine AllReadyL.cons rfl (fun K hK => ?_) AllReadyL.nil
        refine wp_store_y 91 (.tmp 7) (.tmp 19) rfl (w.heap.size + 1) #[.int .u32 g.a, .int .u32 g.s, .bool g.rests, .bool g.batch, .int .i64 g.freed] rfl rfl 91 _ (AZ.hp rfl) infoGr rfl (by simp [Value.oneCell']) ?_
        intro w4 hA4 hF4
        refine hK.out _ _ (fun _ => ⟨hHeld.1.fr hF4 (by simp), hHeld.2.1.fr hF4 (by simp; omega), hHeld.2.2.1.fr hF4 (by simp; omega), hHeld.2.2.2.trans hF4 (by simp)⟩) (fun hHeld' => ?_); have hHeld := hHeld' (by decide); clear hHeld' hK K; (try (refine wpAnyL_norm (by simp only [Act.put, List.setIfInBounds_toArray, List.set_cons_zero, List.set_cons_succ]; rfl) ?_))
        refine wpAnyL_take (i := 12) (v := ?_) rfl (by kernel_rfl) (fun _ _ _ h => h) (Or.inl ⟨by rfl, ?_⟩) (by assumption) ?_; rotate_left; (focus (intro w hSw; skip; go_simp; (try with_reducible rfl))); (try (refine wpAnyL_norm (by simp only [Act.put, List.setIfInBounds_toArray, List.set_cons_zero, List.set_cons_succ]; rfl) ?_))
        refine wpAnyL_done (by kernel_rfl) ?_ _
        go_wp2_with fail
        go_meet
        exact ⟨rfl, rfl, hA4, hHeld.1, hHeld.2.2.2⟩
      · refine wp_store_y 91 (.tmp 7) (.tmp 19) rfl (w.heap.size + 1) #[.int .u32 g.a, .int .u32 g.s, .bool g.rests, .bool g.batch, .int .i64 g.freed] rfl rfl 91 _ (AZ.hp rfl) infoGr rfl (by simp [Value.oneCell']) ?_
        intro w4 hA4 hF4
        refine hK.out _ _ (fun _ => ⟨hHeld.1.fr hF4 (by simp), hHeld.2.1.fr hF4 (by simp; omega), hHeld.2.2.1.fr hF4 (by simp; omega), hHeld.2.2.2.trans hF4 (by simp)⟩) (fun hHeld' => ?_); have hHeld := hHeld' (by decide); clear hHeld' hK K; (try (refine wpAnyL_norm (by simp only [Act.put, List.setIfInBounds_toArray, List.set_cons_zero, List.set_cons_succ]; rfl) ?_))
        refine wpAnyL_take (i := 9) (v := ?_) rfl (by kernel_rfl) (fun _ _ _ h => h) (Or.inl ⟨by rfl, ?_⟩) (by assumption) ?_; rotate_left; (focus (intro w hSw; skip; go_simp; (try with_reducible rfl))); (try (refine wpAnyL_norm (by simp only [Act.put, List.setIfInBounds_toArray, List.set_cons_zero, List.set_cons_succ]; rfl) ?_))
        refine wpAnyL_take (i := 12) (v := ?_) rfl (by kernel_rfl) (fun _ _ _ h => h) (Or.inl ⟨by rfl, ?_⟩) (by assumption) ?_; rotate_left; (focus (intro w hSw; skip; go_simp; (try with_reducible rfl))); (try (refine wpAnyL_norm (by simp only [Act.put, List.setIfInBounds_toArray, List.set_cons_zero, List.set_cons_succ]; rfl) ?_))
        refine wpAnyL_done (by kernel_rfl) ?_ _
        go_wp2_with fail
        go_meet
        exact ⟨rfl, rfl, hA4, hHeld.1, hHeld.2.2.2⟩
  obtain ⟨rfl, rfl, hG4, hE4, hF4⟩ := hcut
  have hD0 : isB x e = (I && (decide (g.a = e.a) && decide (g.s = e.s))) := by
    have h1 := HG.out
    have h2 := HI.out
    unfold isB
    cases hf : findG x.gs e.num with
    | none => rw [hf] at h2; rw [← h2]; rfl
    | some g0 => rw [hf] at h1 h2; simp at h1 h2; subst h1 h2; simp
  obtain ⟨D, hD⟩ : ∃ D, isB x e = D := ⟨_, rfl⟩
  rw [hD] at hD0
  have HIR := Lib.hid (show (Try.prog.info? 27).map (·.size) = some 2 by kernel_rfl)
  obtain ⟨w4, rfl⟩ : ∃ W : World, W = wc := ⟨_, rfl⟩
  have E4 := Lib.hid hE4
  have G4 := Lib.hid hG4
  have F4 := Lib.hid hF4
  have HD := Lib.hid hD
  clear hE4 hG4 hF4 A3 F3 AP GP HV hD
  go_upto_region 2 with (fail)
  go_cut [8] (fun s8 wx => s8 = .bool D ∧ wx = w4)
  case first =>
    cases I
    · rw [Bool.false_and] at hD0
      subst hD0
      go_wp2_with fail
      go_meet
      exact ⟨rfl, rfl⟩
    · rw [Bool.true_and] at hD0
      go_wp2_with (first | refine wpList_load_at rfl 27 (.tmp 23) rfl ⟨w.heap.size + 1, 0, none⟩ rfl [.int .u32 g.a, .int .u32 g.s] _ (G4.out.two 0 _ _ rfl rfl) Try.underlying27 rfl HIR.out ?_ | refine wpList_load_at rfl 27 (.tmp 25) rfl ⟨w.heap.size, 4, none⟩ rfl [.int .u32 e.a, .int .u32 e.s] _ (E4.out.two 4 _ _ rfl rfl) Try.underlying27 rfl HIR.out ?_)
      all_goals
        go_meet
        refine ⟨?_, rfl⟩
        rw [hD0]
        simp
        try omega
  obtain ⟨rfl, rfl⟩ := hcut
  obtain ⟨B2, hB2⟩ : ∃ B, (e.kind == 2) = B := ⟨_, rfl⟩
  obtain ⟨B3, hB3⟩ : ∃ B, (e.kind == 3) = B := ⟨_, rfl⟩
  obtain ⟨B6, hB6⟩ : ∃ B, (e.kind == 6) = B := ⟨_, rfl⟩
  obtain ⟨B4, hB4⟩ : ∃ B, (e.kind == 4) = B := ⟨_, rfl⟩
  obtain ⟨B7, hB7⟩ : ∃ B, (e.kind == 7) = B := ⟨_, rfl⟩
  obtain ⟨B11, hB11⟩ : ∃ B, (e.kind == 11) = B := ⟨_, rfl⟩
  obtain ⟨B10, hB10⟩ : ∃ B, (e.kind == 10) = B := ⟨_, rfl⟩
  obtain ⟨w5, rfl⟩ : ∃ W : World, W = wc := ⟨_, rfl⟩
  have hR := HR.out
  unfold seeS at hR
  have e0 : w5.cell? ⟨w.heap.size, 0, none⟩ = some (.int .i64 e.kind) := E4.out.cell 0
  have HEV := Lib.hid (E4.out.all [.int .i64 e.kind, .int .i64 e.hart, .int .u32 e.val, .int .u64 e.num, .int .u32 e.a, .int .u32 e.s] rfl)
  have P4 := Lib.hid (HP.out.fr0 F4.out)
  clear hD0
  cases B2
  · rw [if_neg (by simpa using hB2)] at hR
    cases B3
    · rw [if_neg (by simpa using hB3)] at hR
      cases B6
      · rw [if_neg (by simpa using hB6)] at hR
        cases B4
        · rw [if_neg (by simpa using hB4)] at hR
          cases B7
          · rw [if_neg (by simpa using hB7)] at hR
            cases B11
            · rw [if_neg (by simpa using hB11)] at hR
              cases B10
              · rw [if_neg (by simpa using hB10)] at hR
                go_wp2_with fail
                go_ret
                rw [← hR]
                exact ⟨rfl, HM.out.fr0 F4.out, F4.out.more (by simp)⟩
              · rw [if_pos (by simpa using hB10)] at hR
                have e1 : w5.cell? ⟨w.heap.size, 1, none⟩ = some (.int .i64 e.hart) := E4.out.cell 1
                go_wp2_with fail
                refine (pdrain_any _ p bg ba ha hs x i P4.out hi e.hart HEO.out.2.2.2.2.2).mono ?_
                rintro e9 w6 ⟨rfl, h6, hf6⟩
                go_wp2_with fail
                go_ret
                rw [← hR]
                exact ⟨rfl, h6, (F4.out.more (T := [p, bg, ba]) (by simp)).trans hf6 (by simp)⟩
            · rw [if_pos (by simpa using hB11)] at hR
              unfold askS at hR
              obtain ⟨J, hJ⟩ : ∃ J, (findA x.ks e.hart).isSome = J := ⟨_, rfl⟩
              obtain ⟨k, hk⟩ : ∃ k, (findA x.ks e.hart).getD ⟨0, 0, 0⟩ = k := ⟨_, rfl⟩
              have hval : (if true then Value.tuple #[(aF x.ks e.hart).getD (.agg #[.int .i64 0, .int .i64 0]), .bool (aF x.ks e.hart).isSome] else (aF x.ks e.hart).getD (.agg #[.int .i64 0, .int .i64 0])) = Value.tuple #[.agg #[.int .i64 k.t, .int .i64 k.e], .bool J] := by
                rw [if_pos rfl]
                unfold aF
                rw [aO_eq, ← hJ, ← hk]
                cases findA x.ks e.hart <;> rfl
              have HV := Lib.hid hval
              have HJ := Lib.hid hJ
              have HR2 := Lib.hid hR
              have hwh := HEO.out.2.2.2.2.2
              clear hval hk hJ hR
              have hlt5 := E4.out.lt
              have hlp5 : p < w5.heap.size := P4.out.at_.lt
              have hla5 : ba < w5.heap.size := P4.out.am.lt
              have hlg5 : bg < w5.heap.size := P4.out.gm.lt
              go_upto_region 20 with (fail)
              clear hB2 hB3 hB6 hB4 hB7 hB11 hB10
              go_cut [9, 10] (fun s9 s10 wx => s9 = .pointer (some ⟨w5.heap.size, 0, none⟩) ∧ s10 = .bool J ∧ Fr [] w5 wx)
              case first =>
                refine wp_region_L (fun W => At W w.heap.size 41 e.cells ∧ At W p 76 (x.cells ha hs bg ba) ∧ Mp Try.prog 3 .i64 W ba i (aF x.ks) ∧ Fr [] w5 W) [] (by kernel_rfl) ⟨E4.out.hp rfl, P4.out.at_.hp rfl, P4.out.am, (Fr.refl _ _).drew⟩ (fun hHeld => ?_)
                refine wpAnyL_take (i := 0) (v := ?_) rfl (by kernel_rfl) (fun _ _ _ h => h) (Or.inl ⟨by rfl, ?_⟩) (by assumption) ?_; rotate_left; (focus (intro w hSw; skip; go_simp; (try with_reducible rfl))); (try (refine wpAnyL_norm (by simp only [Act.put, List.setIfInBounds_toArray, List.set_cons_zero, List.set_cons_succ]; rfl) ?_))
                refine wpAnyL_take (i := 1) (v := ?_) rfl (by kernel_rfl) (fun _ _ _ h => h) (Or.inl ⟨by rfl, ?_⟩) (by assumption) ?_; rotate_left; (focus (intro w hSw; skip; go_simp; (try with_reducible rfl))); (try (refine wpAnyL_norm (by simp only [Act.put, List.setIfInBounds_toArray, List.set_cons_zero, List.set_cons_succ]; rfl) ?_))
                refine wpAnyL_take (i := 2) (v := ?_) rfl (by kernel_rfl) (fun _ _ _ h => h) (Or.inl ⟨by rfl, ?_⟩) (by assumption) ?_; rotate_left; (focus (intro w hSw; skip; go_simp; (try with_reducible rfl))); (try (refine wpAnyL_norm (by simp only [Act.put, List.setIfInBounds_toArray, List.set_cons_zero, List.set_cons_succ]; rfl) ?_))
                refine wpAnyL_take (i := 3) (v := ?_) rfl (by kernel_rfl) (fun _ _ _ h => h) (Or.inl ⟨by rfl, ?_⟩) (by assumption) ?_; rotate_left; (focus (intro w hSw; have c : _ = some (Value.map (some ba)) := hSw.2.1.cell 6; go_simp; (try with_reducible rfl))); (try (refine wpAnyL_norm (by simp only [Act.put, List.setIfInBounds_toArray, List.set_cons_zero, List.set_cons_succ]; rfl) ?_))
                refine wpAnyL_take (i := 4) (v := ?_) rfl (by kernel_rfl) (fun _ _ _ h => h) (Or.inl ⟨by rfl, ?_⟩) (by assumption) ?_; rotate_left; (focus (intro w hSw; skip; go_simp; (try with_reducible rfl))); (try (refine wpAnyL_norm (by simp only [Act.put, List.setIfInBounds_toArray, List.set_cons_zero, List.set_cons_succ]; rfl) ?_))
                refine wpAnyL_take (i := 5) (v := ?_) rfl (by kernel_rfl) (fun _ _ _ h => h) (Or.inl ⟨by rfl, ?_⟩) (by assumption) ?_; rotate_left; (focus (intro w hSw; have c : _ = some (Value.int .i64 e.hart) := hSw.1.cell 1; go_simp; (try with_reducible rfl))); (try (refine wpAnyL_norm (by simp only [Act.put, List.setIfInBounds_toArray, List.set_cons_zero, List.set_cons_succ]; rfl) ?_))
                refine wpAnyL_take (i := 6) rfl (by kernel_rfl) (fun _ _ _ h => h) (yields_mlook (.tmp 92) (.tmp 94) 74 true rfl (fun W hW => hW.2.2.1) Try.underlying3 95 Try.underlying74 _ zeroAk e.hart rfl rfl hwh _ HV.out rfl) (by assumption) ?_; (try (refine wpAnyL_norm (by simp only [Act.put, List.setIfInBounds_toArray, List.set_cons_zero, List.set_cons_succ]; rfl) ?_))
                refine wpAnyL_take (i := 7) (v := ?_) rfl (by kernel_rfl) (fun _ _ _ h => h) (Or.inl ⟨by rfl, ?_⟩) (by assumption) ?_; rotate_left; (focus (intro w hSw; skip; go_simp; (try with_reducible rfl))); (try (refine wpAnyL_norm (by simp only [Act.put, List.setIfInBounds_toArray, List.set_cons_zero, List.set_cons_succ]; rfl) ?_))
                refine wpAnyL_take (i := 8) (v := ?_) rfl (by kernel_rfl) (fun _ _ _ h => h) (Or.inl ⟨by rfl, ?_⟩) (by assumption) ?_; rotate_left; (focus (intro w hSw; skip; go_simp; (try with_reducible rfl))); (try (refine wpAnyL_norm (by simp only [Act.put, List.setIfInBounds_toArray, List.set_cons_zero, List.set_cons_succ]; rfl) ?_))
                have AZ := At.new w5 95 #[.int .i64 0, .int .i64 0]
                have AE := E4.out.old (.cells #[.int .i64 0, .int .i64 0] 95)
                have APp := P4.out.at_.old (.cells #[.int .i64 0, .int .i64 0] 95)
                have AF : Fr [] w5 (w5.alloc (.cells #[.int .i64 0, .int .i64 0] 95)) := (Fr.refl _ _).alloc _
                have AM : Mp Try.prog 3 .i64 (w5.alloc (.cells #[.int .i64 0, .int .i64 0] 95)) ba i (aF x.ks) := P4.out.am.fr0 AF
                refine wpAnyL_ready (rs := [9, 10]) (by kernel_rfl) (by simp) ?_
                refine AllReadyL.cons rfl (fun K hK => ?_) (AllReadyL.cons rfl (fun K hK => ?_) AllReadyL.nil)
                · go_simp
                  refine hK.out _ _ (fun _ => hHeld) (fun hHeld' => ?_); have hHeld := hHeld' (by decide); clear hHeld' hK K; (try (refine wpAnyL_norm (by simp only [Act.put, List.setIfInBounds_toArray, List.set_cons_zero, List.set_cons_succ]; rfl) ?_))
                  refine wpAnyL_ready (rs := [10]) (by kernel_rfl) (by simp) ?_; refine AllReadyL.cons rfl (fun K hK => ?_) AllReadyL.nil
                  go_simp
                  refine hK.out _ _ (fun _ => ⟨AE.hp rfl, APp.hp rfl, AM.fr0 (Fr.refl _ _).drew, AF.drew⟩) (fun hHeld' => ?_); have hHeld := hHeld' (by decide); clear hHeld' hK K; (try (refine wpAnyL_norm (by simp only [Act.put, List.setIfInBounds_toArray, List.set_cons_zero, List.set_cons_succ]; rfl) ?_))
                  refine wpAnyL_ready (rs := [11]) (by kernel_rfl) (by simp) ?_; refine AllReadyL.cons rfl (fun K hK => ?_) AllReadyL.nil
                  refine wp_store_y 95 (.tmp 9) (.tmp 96) rfl w5.heap.size #[.int .i64 k.t, .int .i64 k.e] rfl rfl 95 _ (AZ.hp rfl) infoAk rfl (by simp [Value.oneCell']) ?_
                  intro w6 hA6 hF6
                  refine hK.out _ _ (fun _ => ⟨hHeld.1.fr hF6 (by simp; omega), hHeld.2.1.fr hF6 (by simp; omega), hHeld.2.2.1.fr hF6 (by simp; omega), hHeld.2.2.2.trans hF6 (by simp)⟩) (fun hHeld' => ?_); have hHeld := hHeld' (by decide); clear hHeld' hK K; (try (refine wpAnyL_norm (by simp only [Act.put, List.setIfInBounds_toArray, List.set_cons_zero, List.set_cons_succ]; rfl) ?_))
                  refine wpAnyL_take (i := 12) (v := ?_) rfl (by kernel_rfl) (fun _ _ _ h => h) (Or.inl ⟨by rfl, ?_⟩) (by assumption) ?_; rotate_left; (focus (intro w hSw; skip; go_simp; (try with_reducible rfl))); (try (refine wpAnyL_norm (by simp only [Act.put, List.setIfInBounds_toArray, List.set_cons_zero, List.set_cons_succ]; rfl) ?_))
                  refine wpAnyL_done (by kernel_rfl) ?_ _
                  go_wp2_with fail
                  go_meet
                  exact ⟨rfl, rfl, hHeld.2.2.2⟩
                · go_simp
                  refine hK.out _ _ (fun _ => ⟨AE.hp rfl, APp.hp rfl, AM.fr0 (Fr.refl _ _).drew, AF.drew⟩) (fun hHeld' => ?_); have hHeld := hHeld' (by decide); clear hHeld' hK K; (try (refine wpAnyL_norm (by simp only [Act.put, List.setIfInBounds_toArray, List.set_cons_zero, List.set_cons_succ]; rfl) ?_))
                  refine wpAnyL_ready (rs := [9, 11]) (by kernel_rfl) (by simp) ?_
                  refine AllReadyL.cons rfl (fun K hK => ?_) (AllReadyL.cons rfl (fun K hK => ?_) AllReadyL.nil)
                  · go_simp
                    refine hK.out _ _ (fun _ => hHeld) (fun hHeld' => ?_); have hHeld := hHeld' (by decide); clear hHeld' hK K; (try (refine wpAnyL_norm (by simp only [Act.put, List.setIfInBounds_toArray, List.set_cons_zero, List.set_cons_succ]; rfl) ?_))
                    refine wpAnyL_ready (rs := [11]) (by kernel_rfl) (by simp) ?_; refine AllReadyL.cons rfl (fun K hK => ?_) AllReadyL.nil
                    refine wp_store_y 95 (.tmp 9) (.tmp 96) rfl w5.heap.size #[.int .i64 k.t, .int .i64 k.e] rfl rfl 95 _ (AZ.hp rfl) infoAk rfl (by simp [Value.oneCell']) ?_
                    intro w6 hA6 hF6
                    refine hK.out _ _ (fun _ => ⟨hHeld.1.fr hF6 (by simp; omega), hHeld.2.1.fr hF6 (by simp; omega), hHeld.2.2.1.fr hF6 (by simp; omega), hHeld.2.2.2.trans hF6 (by simp)⟩) (fun hHeld' => ?_); have hHeld := hHeld' (by decide); clear hHeld' hK K; (try (refine wpAnyL_norm (by simp only [Act.put, List.setIfInBounds_toArray, List.set_cons_zero, List.set_cons_succ]; rfl) ?_))
                    refine wpAnyL_take (i := 12) (v := ?_) rfl (by kernel_rfl) (fun _ _ _ h => h) (Or.inl ⟨by rfl, ?_⟩) (by assumption) ?_; rotate_left; (focus (intro w hSw; skip; go_simp; (try with_reducible rfl))); (try (refine wpAnyL_norm (by simp only [Act.put, List.setIfInBounds_toArray, List.set_cons_zero, List.set_cons_succ]; rfl) ?_))
                    refine wpAnyL_done (by kernel_rfl) ?_ _
                    go_wp2_with fail
                    go_meet
                    exact ⟨rfl, rfl, hHeld.2.2.2⟩
                  · refine wp_store_y 95 (.tmp 9) (.tmp 96) rfl w5.heap.size #[.int .i64 k.t, .int .i64 k.e] rfl rfl 95 _ (AZ.hp rfl) infoAk rfl (by simp [Value.oneCell']) ?_
                    intro w6 hA6 hF6
                    refine hK.out _ _ (fun _ => ⟨hHeld.1.fr hF6 (by simp; omega), hHeld.2.1.fr hF6 (by simp; omega), hHeld.2.2.1.fr hF6 (by simp; omega), hHeld.2.2.2.trans hF6 (by simp)⟩) (fun hHeld' => ?_); have hHeld := hHeld' (by decide); clear hHeld' hK K; (try (refine wpAnyL_norm (by simp only [Act.put, List.setIfInBounds_toArray, List.set_cons_zero, List.set_cons_succ]; rfl) ?_))
                    refine wpAnyL_take (i := 9) (v := ?_) rfl (by kernel_rfl) (fun _ _ _ h => h) (Or.inl ⟨by rfl, ?_⟩) (by assumption) ?_; rotate_left; (focus (intro w hSw; skip; go_simp; (try with_reducible rfl))); (try (refine wpAnyL_norm (by simp only [Act.put, List.setIfInBounds_toArray, List.set_cons_zero, List.set_cons_succ]; rfl) ?_))
                    refine wpAnyL_take (i := 12) (v := ?_) rfl (by kernel_rfl) (fun _ _ _ h => h) (Or.inl ⟨by rfl, ?_⟩) (by assumption) ?_; rotate_left; (focus (intro w hSw; skip; go_simp; (try with_reducible rfl))); (try (refine wpAnyL_norm (by simp only [Act.put, List.setIfInBounds_toArray, List.set_cons_zero, List.set_cons_succ]; rfl) ?_))
                    refine wpAnyL_done (by kernel_rfl) ?_ _
                    go_wp2_with fail
                    go_meet
                    exact ⟨rfl, rfl, hHeld.2.2.2⟩
              obtain ⟨rfl, rfl, hF6⟩ := hcut
              have F6 := Lib.hid hF6
              have E6 := Lib.hid (E4.out.fr hF6 (by simp))
              have P6 := Lib.hid (P4.out.fr0 hF6)
              clear hF6
              cases J
              · go_wp2_with fail
                refine wp_region_L (fun W => At W w.heap.size 41 e.cells ∧ Past W p bg ba ha hs x i ∧ Fr [] w5 W) [8] (by kernel_rfl) ⟨E6.out.hp rfl, P6.out.fr0 (Fr.refl _ _).drew, F6.out.drew⟩ (fun hHeld => ?_)
                refine wpAnyL_take (i := 0) (v := ?_) rfl (by kernel_rfl) (fun _ _ _ h => h) (Or.inl ⟨by rfl, ?_⟩) (by assumption) ?_; rotate_left; (focus (intro w hSw; skip; go_simp; (try with_reducible rfl))); (try (refine wpAnyL_norm (by simp only [Act.put, List.setIfInBounds_toArray, List.set_cons_zero, List.set_cons_succ]; rfl) ?_))
                refine wpAnyL_take (i := 1) (v := ?_) rfl (by kernel_rfl) (fun _ _ _ h => h) (Or.inl ⟨by rfl, ?_⟩) (by assumption) ?_; rotate_left; (focus (intro w hSw; skip; go_simp; (try with_reducible rfl))); (try (refine wpAnyL_norm (by simp only [Act.put, List.setIfInBounds_toArray, List.set_cons_zero, List.set_cons_succ]; rfl) ?_))
                refine wpAnyL_take (i := 2) (v := ?_) rfl (by kernel_rfl) (fun _ _ _ h => h) (Or.inl ⟨by rfl, ?_⟩) (by assumption) ?_; rotate_left; (focus (intro w hSw; skip; go_simp; (try with_reducible rfl))); (try (refine wpAnyL_norm (by simp only [Act.put, List.setIfInBounds_toArray, List.set_cons_zero, List.set_cons_succ]; rfl) ?_))
                refine wpAnyL_take (i := 3) (v := ?_) rfl (by kernel_rfl) (fun _ _ _ h => h) (Or.inl ⟨by rfl, ?_⟩) (by assumption) ?_; rotate_left; (focus (intro w hSw; have c : _ = some (Value.map (some ba)) := hSw.2.1.at_.cell 6; go_simp; (try with_reducible rfl))); (try (refine wpAnyL_norm (by simp only [Act.put, List.setIfInBounds_toArray, List.set_cons_zero, List.set_cons_succ]; rfl) ?_))
                refine wpAnyL_take (i := 4) (v := ?_) rfl (by kernel_rfl) (fun _ _ _ h => h) (Or.inl ⟨by rfl, ?_⟩) (by assumption) ?_; rotate_left; (focus (intro w hSw; skip; go_simp; (try with_reducible rfl))); (try (refine wpAnyL_norm (by simp only [Act.put, List.setIfInBounds_toArray, List.set_cons_zero, List.set_cons_succ]; rfl) ?_))
                refine wpAnyL_take (i := 5) (v := ?_) rfl (by kernel_rfl) (fun _ _ _ h => h) (Or.inl ⟨by rfl, ?_⟩) (by assumption) ?_; rotate_left; (focus (intro w hSw; have c : _ = some (Value.int .i64 e.hart) := hSw.1.cell 1; go_simp; (try with_reducible rfl))); (try (refine wpAnyL_norm (by simp only [Act.put, List.setIfInBounds_toArray, List.set_cons_zero, List.set_cons_succ]; rfl) ?_))
                refine wpAnyL_take (i := 6) (v := ?_) rfl (by kernel_rfl) (fun _ _ _ h => h) (Or.inl ⟨by rfl, ?_⟩) (by assumption) ?_; rotate_left; (focus (intro w hSw; skip; go_simp; (try with_reducible rfl))); (try (refine wpAnyL_norm (by simp only [Act.put, List.setIfInBounds_toArray, List.set_cons_zero, List.set_cons_succ]; rfl) ?_))
                refine wpAnyL_take (i := 7) (v := ?_) rfl (by kernel_rfl) (fun _ _ _ h => h) (Or.inl ⟨by rfl, ?_⟩) (by assumption) ?_; rotate_left; (focus (intro w hSw; skip; go_simp; (try with_reducible rfl))); (try (refine wpAnyL_norm (by simp only [Act.put, List.setIfInBounds_toArray, List.set_cons_zero, List.set_cons_succ]; rfl) ?_))
                refine wpAnyL_ready (rs := [8]) (by kernel_rfl) (by simp) ?_; refine AllReadyL.cons rfl (fun K hK => ?_) AllReadyL.nil
                refine wp_mstore (.tmp 102) (.tmp 104) (.tmp 106) 74 rfl hHeld.2.1.am Try.underlying3 95 Try.underlying74 (by unfold maxLen; omega) e.hart _ rfl rfl rfl hwh ?_
                intro w8 hm8 hf8 hs8
                refine hK.out _ _ (fun h => (h (by decide)).elim) (fun _ => ?_); clear hK K; (try (refine wpAnyL_norm (by simp only [Act.put, List.setIfInBounds_toArray, List.set_cons_zero, List.set_cons_succ]; rfl) ?_))
                refine wpAnyL_done (by kernel_rfl) ?_ _
                go_wp2_with fail
                go_ret
                have GR := GG.out
                have hR := HR2.out
                have hf : findA x.ks e.hart = none := by
                  have := HJ.out
                  cases hf : findA x.ks e.hart with
                  | none => rfl
                  | some _ => rw [hf] at this; cases this
                rw [hf] at hR
                dsimp only at hR
                rw [← hR] at GR ⊢
                have hP := hHeld.2.1
                exact ⟨rfl, ⟨hP.at_.fr hf8 (by simp; omega), (hP.gm.fr hf8 (by simp; omega)).mono (by omega), hm8.congr fun j => (aO_snoc x.ks e.hart i hf j).symm, hba, GR, hb1, hb2⟩, ((F4.out.trans0 hHeld.2.2).more (T := [p, bg, ba]) (by simp)).trans hf8 (by simp)⟩
              · go_wp2_with fail
                go_ret
                have hR := HR2.out
                have hJ := HJ.out
                cases hf : findA x.ks e.hart with
                | none => rw [hf] at hJ; cases hJ
                | some _ =>
                  rw [hf] at hR
                  dsimp only at hR
                  rw [← hR]
                  exact ⟨rfl, HM.out.fr0 (F4.out.trans0 F6.out), (F4.out.trans0 F6.out).more (by simp)⟩
          · rw [if_pos (by simpa using hB7)] at hR
            go_wp2_with (refine wpList_load_at rfl 41 (.tmp 4) rfl ⟨w.heap.size, 0, none⟩ rfl _ _ HEV.out Try.underlying41 rfl infoEv ?_)
            refine (pfin_any _ p bg ba ha hs x i P4.out hi e HEO.out).mono ?_
            rintro e9 w6 ⟨rfl, h6, hf6⟩
            go_wp2_with fail
            go_ret
            rw [← hR]
            exact ⟨rfl, h6, (F4.out.more (T := [p, bg, ba]) (by simp)).trans hf6 (by simp)⟩
        · rw [if_pos (by simpa using hB4)] at hR
          have r3 : w5.cell? ⟨w.heap.size + 1, 3, none⟩ = some (.bool g.batch) := G4.out.cell 3
          have q4 : w5.cell? ⟨p, 4, none⟩ = some (.bool x.sw) := P4.out.at_.cell 4
          obtain ⟨M, hM⟩ : ∃ M, g.batch = M := ⟨_, rfl⟩
          obtain ⟨N, hN⟩ : ∃ N, x.sw = N := ⟨_, rfl⟩
          rw [hM] at r3
          rw [hN] at q4
          have HMM := Lib.hid hM
          have HNN := Lib.hid hN
          have HR2 := Lib.hid hR
          clear hM hN hR
          cases N
          · go_wp2_with fail
            go_ret
            rw [← HR2.out, release_bad HG.out (.inl HNN.out)]
            exact ⟨rfl, HM.out.fr0 F4.out, F4.out.more (by simp)⟩
          · cases D
            · go_wp2_with fail
              go_ret
              rw [← HR2.out, release_bad HG.out (.inr (.inl HD.out))]
              exact ⟨rfl, HM.out.fr0 F4.out, F4.out.more (by simp)⟩
            · cases M
              · go_wp2_with fail
                go_ret
                rw [← HR2.out, release_bad HG.out (.inr (.inr HMM.out))]
                exact ⟨rfl, HM.out.fr0 F4.out, F4.out.more (by simp)⟩
              · go_wp2_with fail
                refine wp_region_L (fun W => At W w.heap.size 41 e.cells ∧ Past W p bg ba ha hs x i ∧ Fr [] w W) [6] (by kernel_rfl) ⟨E4.out.hp rfl, P4.out.fr0 (Fr.refl _ _).drew, F4.out.drew⟩ (fun hHeld => ?_)
                refine wpAnyL_take (i := 0) (v := ?_) rfl (by kernel_rfl) (fun _ _ _ h => h) (Or.inl ⟨by rfl, ?_⟩) (by assumption) ?_; rotate_left; (focus (intro w hSw; skip; go_simp; (try with_reducible rfl))); (try (refine wpAnyL_norm (by simp only [Act.put, List.setIfInBounds_toArray, List.set_cons_zero, List.set_cons_succ]; rfl) ?_))
                refine wpAnyL_take (i := 1) (v := ?_) rfl (by kernel_rfl) (fun _ _ _ h => h) (Or.inl ⟨by rfl, ?_⟩) (by assumption) ?_; rotate_left; (focus (intro w hSw; skip; go_simp; (try with_reducible rfl))); (try (refine wpAnyL_norm (by simp only [Act.put, List.setIfInBounds_toArray, List.set_cons_zero, List.set_cons_succ]; rfl) ?_))
                refine wpAnyL_take (i := 2) (v := ?_) rfl (by kernel_rfl) (fun _ _ _ h => h) (Or.inl ⟨by rfl, ?_⟩) (by assumption) ?_; rotate_left; (focus (intro w hSw; skip; go_simp; (try with_reducible rfl))); (try (refine wpAnyL_norm (by simp only [Act.put, List.setIfInBounds_toArray, List.set_cons_zero, List.set_cons_succ]; rfl) ?_))
                refine wpAnyL_take (i := 3) (v := ?_) rfl (by kernel_rfl) (fun _ _ _ h => h) (Or.inl ⟨by rfl, ?_⟩) (by assumption) ?_; rotate_left; (focus (intro w hSw; have c : _ = some (Value.map (some bg)) := hSw.2.1.at_.cell 2; go_simp; (try with_reducible rfl))); (try (refine wpAnyL_norm (by simp only [Act.put, List.setIfInBounds_toArray, List.set_cons_zero, List.set_cons_succ]; rfl) ?_))
                refine wpAnyL_take (i := 4) (v := ?_) rfl (by kernel_rfl) (fun _ _ _ h => h) (Or.inl ⟨by rfl, ?_⟩) (by assumption) ?_; rotate_left; (focus (intro w hSw; skip; go_simp; (try with_reducible rfl))); (try (refine wpAnyL_norm (by simp only [Act.put, List.setIfInBounds_toArray, List.set_cons_zero, List.set_cons_succ]; rfl) ?_))
                refine wpAnyL_take (i := 5) (v := ?_) rfl (by kernel_rfl) (fun _ _ _ h => h) (Or.inl ⟨by rfl, ?_⟩) (by assumption) ?_; rotate_left; (focus (intro w hSw; have c : _ = some (Value.int .u64 (e.num : Int)) := hSw.1.cell 3; go_simp; (try with_reducible rfl))); (try (refine wpAnyL_norm (by simp only [Act.put, List.setIfInBounds_toArray, List.set_cons_zero, List.set_cons_succ]; rfl) ?_))
                refine wpAnyL_ready (rs := [6]) (by kernel_rfl) (by simp) ?_; refine AllReadyL.cons rfl (fun K hK => ?_) AllReadyL.nil
                refine wp_mdelete (.tmp 78) (.tmp 80) 73 rfl hHeld.2.1.gm Try.underlying39 91 Try.underlying73 e.num rfl rfl (wf_u64 _ hen) ?_
                intro w8 hm8 hf8 hs8
                refine hK.out _ _ (fun h => (h (by decide)).elim) (fun _ => ?_); clear hK K; (try (refine wpAnyL_norm (by simp only [Act.put, List.setIfInBounds_toArray, List.set_cons_zero, List.set_cons_succ]; rfl) ?_))
                refine wpAnyL_done (by kernel_rfl) ?_ _
                go_wp2_with fail
                go_ret
                have GR := GG.out
                have hR := HR2.out
                rw [release_good HG.out HNN.out HD.out HMM.out] at hR
                rw [← hR] at GR ⊢
                have hP := hHeld.2.1
                refine ⟨rfl, ⟨hP.at_.fr hf8 (by simp; omega), (hm8.congr fun j => ?_).mono (by omega), (hP.am.fr hf8 (by simp; omega)).mono (by omega), hba, GR, hb1, hb2⟩, (hHeld.2.2.more (T := [p, bg, ba]) (by simp)).trans hf8 (by simp)⟩
                unfold gF
                rw [gO_drop]
                split <;> rfl
      · rw [if_pos (by simpa using hB6)] at hR
        go_wp2_with (refine wpList_load_at rfl 41 (.tmp 4) rfl ⟨w.heap.size, 0, none⟩ rfl _ _ HEV.out Try.underlying41 rfl infoEv ?_)
        refine (pbegin_any _ p bg ba ha hs x i P4.out hi e HEO.out).mono ?_
        rintro e9 w6 ⟨rfl, h6, hf6⟩
        go_wp2_with fail
        go_ret
        rw [← hR]
        exact ⟨rfl, h6, (F4.out.more (T := [p, bg, ba]) (by simp)).trans hf6 (by simp)⟩
    · rw [if_pos (by simpa using hB3)] at hR
      have r1 : w5.cell? ⟨w.heap.size + 1, 2, none⟩ = some (.bool g.rests) := G4.out.cell 2
      have r4 : w5.cell? ⟨w.heap.size + 1, 4, none⟩ = some (.int .i64 g.freed) := G4.out.cell 4
      have y2 := G4.out.froz 2
      have y4 := G4.out.froz 4
      obtain ⟨M, hM⟩ : ∃ M, g.rests = M := ⟨_, rfl⟩
      rw [hM] at r1
      have HMM := Lib.hid hM
      have HR2 := Lib.hid hR
      clear hM hR
      cases D
      · go_wp2_with fail
        go_ret
        rw [← HR2.out, free_bad HG.out (.inl HD.out)]
        exact ⟨rfl, HM.out.fr0 F4.out, F4.out.more (by simp)⟩
      · cases M
        · have HF := Lib.hid (find_of HG.out HD.out)
          have AG : At ((w5.setCell ⟨w.heap.size + 1, 2, none⟩ (.bool true)).setCell ⟨w.heap.size + 1, 4, none⟩ (.int .i64 i)) (w.heap.size + 1) 91 #[.int .u32 g.a, .int .u32 g.s, .bool true, .bool g.batch, .int .i64 i] := (G4.out.set 2 (.bool true)).set 4 (.int .i64 i)
          have F7 : Fr [] w ((w5.setCell ⟨w.heap.size + 1, 2, none⟩ (.bool true)).setCell ⟨w.heap.size + 1, 4, none⟩ (.int .i64 i)) := (F4.out.set (a := ⟨w.heap.size + 1, 2, none⟩) (.inr (by simp)) _).set (a := ⟨w.heap.size + 1, 4, none⟩) (.inr (by simp)) _
          have E7 := Lib.hid ((E4.out.far (a := ⟨w.heap.size + 1, 2, none⟩) (by simp) (.bool true)).far (a := ⟨w.heap.size + 1, 4, none⟩) (by simp) (.int .i64 i))
          have P7 := Lib.hid (HP.out.fr0 F7)
          have AG := Lib.hid AG
          have F7 := Lib.hid F7
          go_wp2_with fail
          refine wp_region_L (fun W => At W (w.heap.size + 1) 91 #[.int .u32 g.a, .int .u32 g.s, .bool true, .bool g.batch, .int .i64 i] ∧ At W w.heap.size 41 e.cells ∧ Past W p bg ba ha hs x i ∧ Fr [] w W) [7] (by kernel_rfl) ⟨AG.out.hp rfl, E7.out.hp rfl, P7.out.fr0 (Fr.refl _ _).drew, F7.out.drew⟩ (fun hHeld => ?_)
          refine wpAnyL_take (i := 0) (v := ?_) rfl (by kernel_rfl) (fun _ _ _ h => h) (Or.inl ⟨by rfl, ?_⟩) (by assumption) ?_; rotate_left; (focus (intro w hSw; skip; go_simp; (try with_reducible rfl))); (try (refine wpAnyL_norm (by simp only [Act.put, List.setIfInBounds_toArray, List.set_cons_zero, List.set_cons_succ]; rfl) ?_))
          refine wpAnyL_take (i := 1) (v := ?_) rfl (by kernel_rfl) (fun _ _ _ h => h) (Or.inl ⟨by rfl, ?_⟩) (by assumption) ?_; rotate_left; (focus (intro w hSw; skip; go_simp; (try with_reducible rfl))); (try (refine wpAnyL_norm (by simp only [Act.put, List.setIfInBounds_toArray, List.set_cons_zero, List.set_cons_succ]; rfl) ?_))
          refine wpAnyL_take (i := 2) (v := ?_) rfl (by kernel_rfl) (fun _ _ _ h => h) (Or.inl ⟨by rfl, ?_⟩) (by assumption) ?_; rotate_left; (focus (intro w hSw; skip; go_simp; (try with_reducible rfl))); (try (refine wpAnyL_norm (by simp only [Act.put, List.setIfInBounds_toArray, List.set_cons_zero, List.set_cons_succ]; rfl) ?_))
          refine wpAnyL_take (i := 3) (v := ?_) rfl (by kernel_rfl) (fun _ _ _ h => h) (Or.inl ⟨by rfl, ?_⟩) (by assumption) ?_; rotate_left; (focus (intro w hSw; have c : _ = some (Value.map (some bg)) := hSw.2.2.1.at_.cell 2; go_simp; (try with_reducible rfl))); (try (refine wpAnyL_norm (by simp only [Act.put, List.setIfInBounds_toArray, List.set_cons_zero, List.set_cons_succ]; rfl) ?_))
          refine wpAnyL_take (i := 4) (v := ?_) rfl (by kernel_rfl) (fun _ _ _ h => h) (Or.inl ⟨by rfl, ?_⟩) (by assumption) ?_; rotate_left; (focus (intro w hSw; skip; go_simp; (try with_reducible rfl))); (try (refine wpAnyL_norm (by simp only [Act.put, List.setIfInBounds_toArray, List.set_cons_zero, List.set_cons_succ]; rfl) ?_))
          refine wpAnyL_take (i := 5) (v := ?_) rfl (by kernel_rfl) (fun _ _ _ h => h) (Or.inl ⟨by rfl, ?_⟩) (by assumption) ?_; rotate_left; (focus (intro w hSw; have c : _ = some (Value.int .u64 (e.num : Int)) := hSw.2.1.cell 3; go_simp; (try with_reducible rfl))); (try (refine wpAnyL_norm (by simp only [Act.put, List.setIfInBounds_toArray, List.set_cons_zero, List.set_cons_succ]; rfl) ?_))
          refine wpAnyL_take (i := 6) rfl (by kernel_rfl) (fun _ _ _ h => h) (yields_load_at 91 (.tmp 7) rfl ⟨w.heap.size + 1, 0, none⟩ rfl [.int .u32 g.a, .int .u32 g.s, .bool true, .bool g.batch, .int .i64 i] _ (fun W hW => hW.1.all _ rfl) Try.underlying91 rfl infoGr rfl) (by assumption) ?_; (try (refine wpAnyL_norm (by simp only [Act.put, List.setIfInBounds_toArray, List.set_cons_zero, List.set_cons_succ]; rfl) ?_))
          refine wpAnyL_ready (rs := [7]) (by kernel_rfl) (by simp) ?_; refine AllReadyL.cons rfl (fun K hK => ?_) AllReadyL.nil
          refine wp_mstore (.tmp 50) (.tmp 52) (.tmp 53) 73 rfl hHeld.2.2.1.gm Try.underlying39 91 Try.underlying73 (by unfold maxLen; omega) e.num _ rfl rfl rfl (wf_u64 _ hen) ?_
          intro w8 hm8 hf8 hs8
          refine hK.out _ _ (fun h => (h (by decide)).elim) (fun _ => ?_); clear hK K; (try (refine wpAnyL_norm (by simp only [Act.put, List.setIfInBounds_toArray, List.set_cons_zero, List.set_cons_succ]; rfl) ?_))
          refine wpAnyL_done (by kernel_rfl) ?_ _
          go_wp2_with fail
          go_ret
          have GR := GG.out
          have hR := HR2.out
          rw [free_good HG.out HD.out HMM.out] at hR
          rw [← hR] at GR ⊢
          have hP := hHeld.2.2.1
          exact ⟨rfl, ⟨hP.at_.fr hf8 (by simp; omega), hm8.congr fun j => (gO_upd x.gs e.num i HF.out j).symm, (hP.am.fr hf8 (by simp; omega)).mono (by omega), hba, GR, hb1, hb2⟩, (hHeld.2.2.2.more (T := [p, bg, ba]) (by simp)).trans hf8 (by simp)⟩
        · go_wp2_with fail
          go_ret
          rw [← HR2.out, free_bad HG.out (.inr HMM.out)]
          exact ⟨rfl, HM.out.fr0 F4.out, F4.out.more (by simp)⟩
  · rw [if_pos (by simpa using hB2)] at hR
    go_wp2_with (refine wpList_load_at rfl 41 (.tmp 4) rfl ⟨w.heap.size, 0, none⟩ rfl _ _ HEV.out Try.underlying41 rfl infoEv ?_)
    refine (pgrant_any _ p bg ba ha hs x i P4.out hi e HEO.out).mono ?_
    rintro e9 w6 ⟨rfl, h6, hf6⟩
    go_wp2_with fail
    go_ret
    rw [← hR]
    exact ⟨rfl, h6, (F4.out.more (T := [p, bg, ba]) (by simp)).trans hf6 (by simp)⟩
end Go.Proofs.Ytkbdoiefgmbikaa
