/-
  An arena made, copied, and what tags it tells of a page. Condition: numbers in their types' ranges.
-/





import Derived.Test.YtilgklpponaoeaaArMore
import Derived.Test.YtilgklpponaoeaaLists
import Derived.BigRegion
import Derived.Deep.OwnRows
import Derived.Maps.AppendAt
import Derived.WalkSpells
import Derived.Lib.SliceRun
set_option linter.unusedVariables false
namespace Go.Proofs.Ytilgklpponaoeaa
open Go.ChangeShapes Go.WideShapes Go.ChangeAt Go.RowKit
set_option maxRecDepth 100000 in
theorem bclone_any (w : World) (g n c : Nat) (cs : Array Value) (h : At w g 5 cs) (hn : n ≤ 262144) (hc : n ≤ c) (hsz : n ≤ cs.size) (l : List Nat) (hl : cs.toList.take n = bys l) :
    Calls Try.prog 34 #[.slice (some ⟨g, 0, none⟩) n c] w fun r w' => ∃ (g' c' : Nat) (cs' : Array Value), r = .returned (.slice (some ⟨g', 0, none⟩) n c') ∧ n ≤ c' ∧ c' ≤ 9223372036854775807 ∧ w.heap.size ≤ g' ∧ At w' g' 5 cs' ∧ n ≤ cs'.size ∧ cs'.toList.take n = bys l ∧ Fr [] w w' := by
  obtain ⟨i0, hi, hz0, hz1, hz2⟩ := info_parts infoU8
  have hcell := Lib.hid fun (W : World) (f : Fr [] w W) j u (hu : (cs.toList.take n)[j]? = some u) => show W.cell? ((⟨g, 0, none⟩ : Addr).add j) = some u by
    have hj : j < n := by
      rcases Nat.lt_or_ge j n with h1 | h1
      · exact h1
      · rw [List.getElem?_eq_none (by simp; omega)] at hu; cases hu
    rw [Go.WideShapes.add_plain, Nat.zero_add, (h.fr f (by simp)).cell j]
    rw [List.getElem?_take] at hu
    simpa [hj] using hu
  have hone : Hid (∀ u ∈ cs.toList.take n, u.oneCell' = true) := Lib.hid (by rw [hl]; exact bys_one l)
  have hl1 : Hid ((cs.toList.take n).length = n * 1) := Lib.hid (by simp; omega)
  have H := Lib.hid h
  have HL := Lib.hid hl
  clear h hl
  have heq := fun W : World => Lib.run_eql_slice_nil (P := Try.prog) W 31 5 (some ⟨g, 0, none⟩) n c 0 0 Try.underlying31
  simp only [Option.isNone_some] at heq
  go_enter Try.func34, Try.ntmps34
  have hown0 := Lib.hid (own_empty w 5 1)
  have hnews := Lib.hid (hcell.out (w.alloc (.cells #[] 5)) ((Fr.refl _ _).alloc _))
  go_wp2_with (at_builtin; refine wpList_append_own_at _ rfl (.tmp 5) (.tmp 6) 31 rfl w.heap.size 5 i0 (.int .u8 0) 1 1 Try.underlying31 hi hz0 hz1 hz2 rfl (by omega) (.slice (some ⟨w.heap.size, 0, none⟩) 0 0) 0 [] rfl hown0.out ⟨g, 0, none⟩ n c (cs.toList.take n) rfl hl1.out hnews.out hone.out (by unfold maxLen; omega) (by omega) (by simp) ?_; intro v1 w1 hown1 hg1 hnil hat1)
  go_ret
  have hF := ((Fr.refl [] w).alloc (.cells #[] 5)).trans (Fr.grown hg1) (by simp [Value.ownBlock])
  obtain ⟨hl', ⟨h1, _⟩ | ⟨g', c', cs', h1, h2, h3, h4, h5, h6, h7⟩⟩ := hown1
  · have := hnil.1 h1; simp at this
  · have h2' : w.heap.size ≤ g' := h2
    unfold maxLen at h5
    refine ⟨g', c', cs', by rw [← Nat.zero_add n]; exact congrArg Ending.returned h1, by omega, h5, h2', h3, by omega, ?_, hF⟩
    rw [List.nil_append, HL.out] at h7
    rw [← h7]
    congr 1
    omega
set_option maxHeartbeats 1000000 in
set_option maxRecDepth 100000 in
theorem acopy_any (w : World) (ap p g bg cap : Nat) (bs : List Nat) (f : Nat → Bool) (h : Ar w ap p g bg cap bs f) :
    Calls Try.prog 10 #[.pointer (some ⟨ap, 0, none⟩)] w fun r w' => ∃ ap' p' g' bg' cap', r = .returned (.pointer (some ⟨ap', 0, none⟩)) ∧ Ar w' ap' p' g' bg' cap' bs f ∧ w.heap.size ≤ ap' ∧ w.heap.size ≤ p' ∧ w.heap.size ≤ g' ∧ w.heap.size ≤ bg' ∧ Fr [] w w' := by
  have CN := Lib.hid (anone_no w ap p g bg cap bs f h)
  have H := Lib.hid h
  have CC := Lib.hid fun (W : World) (hW : Fr [] w W) => copy_any W p g (bs.length / 16) f (h.fr0 hW).2.2.2.2.2.2.1
  have CB := Lib.hid fun (W : World) (hW : Fr [] w W) => (show Calls Try.prog 34 #[.slice (some ⟨bg, 0, none⟩) bs.length cap] W _ from by
    obtain ⟨a1, a2, a3, a4, a5, a6, a7, cs, a8, a9, a10⟩ := h.fr0 hW
    exact bclone_any W bg bs.length cap cs a8 a2 a3 a9 bs a10)
  have HT := Lib.hid fun (W : World) (hW : Fr [] w W) => (h.fr0 hW).top
  obtain ⟨N, hN⟩ : ∃ N, bs.length = N := ⟨_, rfl⟩
  have HN := Lib.hid hN
  rw [hN] at CC CB HT
  clear h hN
  go_enter Try.func10, Try.ntmps10
  go_wp2_with fail
  refine (CN.out).mono ?_
  rintro e w' ⟨rfl, rfl⟩
  go_upto_region 3 with (fail)
  refine wp_region_L (fun W => Fr [] w W) [] (by kernel_rfl) (Fr.refl _ _).drew (fun hHeld => ?_)
  refine wpAnyL_take (i := 0) (v := ?_) rfl (by kernel_rfl) (fun _ _ _ h => h) (Or.inl ⟨by rfl, ?_⟩) (by assumption) ?_; rotate_left; (focus (intro w hSw; skip; go_simp; (try with_reducible rfl))); (try (refine wpAnyL_norm (by simp only [Act.put, List.setIfInBounds_toArray, List.set_cons_zero, List.set_cons_succ]; rfl) ?_))
  refine wpAnyL_take (i := 1) (v := ?_) rfl (by kernel_rfl) (fun _ _ _ h => h) (Or.inl ⟨by rfl, ?_⟩) (by assumption) ?_; rotate_left; (focus (intro w hSw; skip; go_simp; (try with_reducible rfl))); (try (refine wpAnyL_norm (by simp only [Act.put, List.setIfInBounds_toArray, List.set_cons_zero, List.set_cons_succ]; rfl) ?_))
  refine wpAnyL_take (i := 2) (v := ?_) rfl (by kernel_rfl) (fun _ _ _ h => h) (Or.inl ⟨by rfl, ?_⟩) (by assumption) ?_; rotate_left; (focus (intro w hSw; skip; go_simp; (try with_reducible rfl))); (try (refine wpAnyL_norm (by simp only [Act.put, List.setIfInBounds_toArray, List.set_cons_zero, List.set_cons_succ]; rfl) ?_))
  refine wpAnyL_take (i := 3) (v := ?_) rfl (by kernel_rfl) (fun _ _ _ h => h) (Or.inl ⟨by rfl, ?_⟩) (by assumption) ?_; rotate_left; (focus (intro w hSw; (have hcl := (HT.out _ hSw).1); go_simp; (try with_reducible rfl))); (try (refine wpAnyL_norm (by simp only [Act.put, List.setIfInBounds_toArray, List.set_cons_zero, List.set_cons_succ]; rfl) ?_))
  refine wpAnyL_take (i := 5) (v := ?_) rfl (by kernel_rfl) (fun _ _ _ h => h) (Or.inl ⟨by rfl, ?_⟩) (by assumption) ?_; rotate_left; (focus (intro w hSw; skip; go_simp; (try with_reducible rfl))); (try (refine wpAnyL_norm (by simp only [Act.put, List.setIfInBounds_toArray, List.set_cons_zero, List.set_cons_succ]; rfl) ?_))
  refine wpAnyL_take (i := 6) (v := ?_) rfl (by kernel_rfl) (fun _ _ _ h => h) (Or.inl ⟨by rfl, ?_⟩) (by assumption) ?_; rotate_left; (focus (intro w hSw; skip; go_simp; (try with_reducible rfl))); (try (refine wpAnyL_norm (by simp only [Act.put, List.setIfInBounds_toArray, List.set_cons_zero, List.set_cons_succ]; rfl) ?_))
  refine wpAnyL_take (i := 7) (v := ?_) rfl (by kernel_rfl) (fun _ _ _ h => h) (Or.inl ⟨by rfl, ?_⟩) (by assumption) ?_; rotate_left; (focus (intro w hSw; skip; go_simp; (try with_reducible rfl))); (try (refine wpAnyL_norm (by simp only [Act.put, List.setIfInBounds_toArray, List.set_cons_zero, List.set_cons_succ]; rfl) ?_))
  refine wpAnyL_take (i := 8) (v := ?_) rfl (by kernel_rfl) (fun _ _ _ h => h) (Or.inl ⟨by rfl, ?_⟩) (by assumption) ?_; rotate_left; (focus (intro w hSw; (have hcl := (HT.out _ hSw).2); go_simp; (try with_reducible rfl))); (try (refine wpAnyL_norm (by simp only [Act.put, List.setIfInBounds_toArray, List.set_cons_zero, List.set_cons_succ]; rfl) ?_))
  refine wpAnyL_ready (rs := [4]) (by kernel_rfl) (by simp) ?_; refine AllReadyL.cons rfl (fun K hK => ?_) AllReadyL.nil
  go_simp
  refine (CC.out _ hHeld).mono ?_
  rintro e w2 ⟨p', g', rfl, h2, hp', hg', hf2⟩
  have hp2 : w.heap.size ≤ p' := hp'
  have hg2 : w.heap.size ≤ g' := hg'
  refine hK.out _ _ (fun _ => hHeld.trans0 hf2) (fun hHeld' => ?_); have hHeld := hHeld' (by decide); clear hHeld' hK K; (try (refine wpAnyL_norm (by simp only [Act.put, List.setIfInBounds_toArray, List.set_cons_zero, List.set_cons_succ]; rfl) ?_))
  refine wpAnyL_ready (rs := [9]) (by kernel_rfl) (by simp) ?_; refine AllReadyL.cons rfl (fun K hK => ?_) AllReadyL.nil
  go_simp
  refine (CB.out _ hHeld).mono ?_
  rintro e w3 ⟨bg', cap', cs', rfl, hc1, hc2, hb3, h3, hs3, ht3, hf3⟩
  have hb2 : w.heap.size ≤ bg' := Nat.le_trans hHeld.size hb3
  refine hK.out _ _ (fun _ => hHeld.trans0 hf3) (fun hHeld' => ?_); have hHeld := hHeld' (by decide); clear hHeld' hK K; (try (refine wpAnyL_norm (by simp only [Act.put, List.setIfInBounds_toArray, List.set_cons_zero, List.set_cons_succ]; rfl) ?_))
  refine wpAnyL_take (i := 10) (v := ?_) rfl (by kernel_rfl) (fun _ _ _ h => h) (Or.inl ⟨by rfl, ?_⟩) (by assumption) ?_; rotate_left; (focus (intro w hSw; skip; go_simp; (try with_reducible rfl))); (try (refine wpAnyL_norm (by simp only [Act.put, List.setIfInBounds_toArray, List.set_cons_zero, List.set_cons_succ]; rfl) ?_))
  refine wpAnyL_ready (rs := [11]) (by kernel_rfl) (by simp) ?_; refine AllReadyL.cons rfl (fun K hK => ?_) AllReadyL.nil
  go_simp
  have hfa : Fr [] w3 (w3.alloc (.cells #[.pointer (some ⟨p', 0, none⟩), .slice (some ⟨bg', 0, none⟩) N cap'] 87)) := (by repeat (first | exact Fr.refl _ _ | assumption | refine Fr.trans0 ?_ (by assumption) | refine Fr.drewN ?_ _ | refine Fr.alloc ?_ _ | refine Fr.drew ?_))
  have hAX := At.new w3 87 #[.pointer (some ⟨p', 0, none⟩), .slice (some ⟨bg', 0, none⟩) N cap']
  have hw3 := hHeld.size
  refine hK.out _ _ (fun _ => hHeld.trans0 hfa) (fun hHeld' => ?_); have hHeld := hHeld' (by decide); clear hHeld' hK K; (try (refine wpAnyL_norm (by simp only [Act.put, List.setIfInBounds_toArray, List.set_cons_zero, List.set_cons_succ]; rfl) ?_))
  refine wpAnyL_take (i := 12) (v := ?_) rfl (by kernel_rfl) (fun _ _ _ h => h) (Or.inl ⟨by rfl, ?_⟩) (by assumption) ?_; rotate_left; (focus (intro w hSw; skip; go_simp; (try with_reducible rfl))); (try (refine wpAnyL_norm (by simp only [Act.put, List.setIfInBounds_toArray, List.set_cons_zero, List.set_cons_succ]; rfl) ?_))
  refine wpAnyL_done (by kernel_rfl) ?_ _
  go_wp2_with fail
  go_ret
  obtain ⟨a1, a2, a3, a4, a5, a6, a7, cs, a8, a9, a10⟩ := H.out
  rw [HN.out] at a1 a2
  refine ⟨_, p', g', bg', cap', rfl, ⟨by rw [HN.out]; exact a1, by rw [HN.out]; exact a2, by rw [HN.out]; exact hc1, hc2, a5, by rw [HN.out]; exact hAX, ?_, cs', h3.fr hfa (by simp), by rw [HN.out]; exact hs3, by rw [HN.out]; exact ht3⟩, hw3, hp2, hg2, hb2, hHeld⟩
  rw [HN.out]
  exact (h2.fr hf3 (by simp) (by simp)).fr hfa (by simp) (by simp)
/-! ### a new one -/
theorem anew_bad (w : World) (n e : Int) (h : (n < 16 ∧ e = 2) ∨ (1024 < n ∧ e = 3)) : Calls Try.prog 7 #[.int .i64 n] w fun r w' => r = .returned (.tuple #[.pointer none, .int .i64 e]) ∧ w = w' := by
  rcases h with ⟨h1, rfl⟩ | ⟨h1, rfl⟩
  · go_enter Try.func7, Try.ntmps7
    go_wp2_with fail
    go_ret2
    exact ⟨rfl, rfl⟩
  · have h2 : ¬ n < 16 := by omega
    have h3 : n > 1024 := by omega
    go_enter Try.func7, Try.ntmps7
    go_wp2_with fail
    go_ret2
    exact ⟨rfl, rfl⟩
set_option maxHeartbeats 1000000 in
set_option maxRecDepth 100000 in
theorem anew_any (w : World) (n : Nat) (h1 : 16 ≤ n) (h2 : n ≤ 1024) :
    Calls Try.prog 7 #[.int .i64 n] w fun r w' => ∃ ap p g bg cap, r = .returned (.tuple #[.pointer (some ⟨ap, 0, none⟩), .int .i64 0]) ∧ Ar w' ap p g bg cap (List.replicate (256 * n) 0) (fun _ => false) ∧ w.heap.size ≤ ap ∧ w.heap.size ≤ p ∧ w.heap.size ≤ g ∧ w.heap.size ≤ bg ∧ Fr [] w w' := by
  obtain ⟨N, hN⟩ : ∃ N, 256 * n = N := ⟨_, rfl⟩
  have hNb : N ≤ 262144 := by omega
  have hN0 : N % 16 = 0 := by omega
  have CT := Lib.hid fun W => (show Calls Try.prog 31 #[.int .i64 ((N : Int) / 16)] W _ from by
    have := new_any (N / 16) W (by omega)
    rw [show ((N / 16 : Nat) : Int) = (N : Int) / 16 by omega] at this
    exact this)
  have hmk := fun W => run_make_row' (P := Try.prog) 31 5 (.int .u8 0) 1 Try.underlying31 infoU8 rfl .i64 .i64 N (by omega) (by omega) W
  simp only [made_bys] at hmk
  have HZL := Lib.hid (show (List.replicate N 0).length = N by simp)
  obtain ⟨Z, hZ⟩ : ∃ Z, (bys (List.replicate N 0)).toArray = Z := ⟨_, rfl⟩
  have HZ := Lib.hid hZ
  rw [hZ] at hmk
  have hwn : (n : Int) * 256 = (N : Int) := by omega
  have hwq : IntKind.i64.wrap ((N : Int) / 16) = (N : Int) / 16 := by simp [IntKind.wrap, IntKind.signed, IntKind.bits]; omega
  have k1 : ¬ (n : Int) < 16 := by omega
  have k2 : ¬ (n : Int) > 1024 := by omega
  rw [hN]
  clear hZ
  go_enter Try.func7, Try.ntmps7
  go_upto_region 6 with (fail)
  refine wp_region_L (fun W => Fr [] w W) [] (by kernel_rfl) (Fr.refl _ _).drew (fun hHeld => ?_)
  refine wpAnyL_take (i := 0) (v := ?_) rfl (by kernel_rfl) (fun _ _ _ h => h) (Or.inl ⟨by rfl, ?_⟩) (by assumption) ?_; rotate_left; (focus (intro w hSw; skip; go_simp; (try with_reducible rfl))); (try (refine wpAnyL_norm (by simp only [Act.put, List.setIfInBounds_toArray, List.set_cons_zero, List.set_cons_succ]; rfl) ?_))
  refine wpAnyL_take (i := 1) (v := ?_) rfl (by kernel_rfl) (fun _ _ _ h => h) (Or.inl ⟨by rfl, ?_⟩) (by assumption) ?_; rotate_left; (focus (intro w hSw; skip; go_simp; (try with_reducible rfl))); (try (refine wpAnyL_norm (by simp only [Act.put, List.setIfInBounds_toArray, List.set_cons_zero, List.set_cons_succ]; rfl) ?_))
  refine wpAnyL_take (i := 3) (v := ?_) rfl (by kernel_rfl) (fun _ _ _ h => h) (Or.inl ⟨by rfl, ?_⟩) (by assumption) ?_; rotate_left; (focus (intro w hSw; skip; go_simp; (try with_reducible rfl))); (try (refine wpAnyL_norm (by simp only [Act.put, List.setIfInBounds_toArray, List.set_cons_zero, List.set_cons_succ]; rfl) ?_))
  refine wpAnyL_ready (rs := [2, 4]) (by kernel_rfl) (by simp) ?_
  refine AllReadyL.cons rfl (fun K hK => ?_) (AllReadyL.cons rfl (fun K hK => ?_) AllReadyL.nil)
  · go_simp
    refine (CT.out _).mono ?_
    rintro e w3 ⟨p, g, rfl, hT3, hp, hg, hf3⟩
    have hp' : w.heap.size ≤ p := hp
    have hg' : w.heap.size ≤ g := hg
    refine hK.out _ _ (fun _ => hHeld.trans0 hf3) (fun hHeld' => ?_); have hHeld := hHeld' (by decide); clear hHeld' hK K; (try (refine wpAnyL_norm (by simp only [Act.put, List.setIfInBounds_toArray, List.set_cons_zero, List.set_cons_succ]; rfl) ?_))
    refine wpAnyL_ready (rs := [4]) (by kernel_rfl) (by simp) ?_; refine AllReadyL.cons rfl (fun K hK => ?_) AllReadyL.nil
    go_simp
    have hB := At.new w3 5 Z
    have hf4 : Fr [] w3 (w3.alloc (.cells Z 5)) := (by repeat (first | exact Fr.refl _ _ | assumption | refine Fr.trans0 ?_ (by assumption) | refine Fr.drewN ?_ _ | refine Fr.alloc ?_ _ | refine Fr.drew ?_))
    have hT := hT3.fr hf4 (by simp) (by simp)
    have hb' := hHeld.size
    refine hK.out _ _ (fun _ => hHeld.trans0 hf4) (fun hHeld' => ?_); have hHeld := hHeld' (by decide); clear hHeld' hK K; (try (refine wpAnyL_norm (by simp only [Act.put, List.setIfInBounds_toArray, List.set_cons_zero, List.set_cons_succ]; rfl) ?_))
    obtain ⟨bg, hbg⟩ : ∃ b, w3.heap.size = b := ⟨_, rfl⟩
    obtain ⟨w4, hw4'⟩ : ∃ W, w3.alloc (.cells Z 5) = W := ⟨_, rfl⟩
    rw [hw4', hbg] at hB
    rw [hw4'] at hT hHeld ⊢
    rw [hbg] at hb' ⊢
    refine wpAnyL_take (i := 5) (v := ?_) rfl (by kernel_rfl) (fun _ _ _ h => h) (Or.inl ⟨by rfl, ?_⟩) (by assumption) ?_; rotate_left; (focus (intro w hSw; skip; go_simp; (try with_reducible rfl))); (try (refine wpAnyL_norm (by simp only [Act.put, List.setIfInBounds_toArray, List.set_cons_zero, List.set_cons_succ]; rfl) ?_))
    refine wpAnyL_ready (rs := [6]) (by kernel_rfl) (by simp) ?_; refine AllReadyL.cons rfl (fun K hK => ?_) AllReadyL.nil
    go_simp
    have hfa : Fr [] w4 (w4.alloc (.cells #[.pointer (some ⟨p, 0, none⟩), .slice (some ⟨bg, 0, none⟩) N N] 87)) := (by repeat (first | exact Fr.refl _ _ | assumption | refine Fr.trans0 ?_ (by assumption) | refine Fr.drewN ?_ _ | refine Fr.alloc ?_ _ | refine Fr.drew ?_))
    have hAX := At.new w4 87 #[.pointer (some ⟨p, 0, none⟩), .slice (some ⟨bg, 0, none⟩) N N]
    have hw4 := hHeld.size
    refine hK.out _ _ (fun _ => hHeld.trans0 hfa) (fun hHeld' => ?_); have hHeld := hHeld' (by decide); clear hHeld' hK K; (try (refine wpAnyL_norm (by simp only [Act.put, List.setIfInBounds_toArray, List.set_cons_zero, List.set_cons_succ]; rfl) ?_))
    refine wpAnyL_take (i := 7) (v := ?_) rfl (by kernel_rfl) (fun _ _ _ h => h) (Or.inl ⟨by rfl, ?_⟩) (by assumption) ?_; rotate_left; (focus (intro w hSw; skip; go_simp; (try with_reducible rfl))); (try (refine wpAnyL_norm (by simp only [Act.put, List.setIfInBounds_toArray, List.set_cons_zero, List.set_cons_succ]; rfl) ?_))
    refine wpAnyL_take (i := 8) (v := ?_) rfl (by kernel_rfl) (fun _ _ _ h => h) (Or.inl ⟨by rfl, ?_⟩) (by assumption) ?_; rotate_left; (focus (intro w hSw; skip; go_simp; (try with_reducible rfl))); (try (refine wpAnyL_norm (by simp only [Act.put, List.setIfInBounds_toArray, List.set_cons_zero, List.set_cons_succ]; rfl) ?_))
    refine wpAnyL_done (by kernel_rfl) ?_ _
    go_wp2_with fail
    go_ret2
    refine ⟨_, rfl, p, g, bg, ⟨N, by rw [HZL.out]; omega, by rw [HZL.out]; omega, by rw [HZL.out]; exact Nat.le_refl _, by omega, Byt.rep N, by rw [HZL.out]; exact hAX, by rw [HZL.out]; exact hT.fr hfa (by simp) (by simp), Z, hB.fr hfa (by simp), ?_, ?_⟩, hw4, by omega, by omega, by omega, hHeld⟩
    · rw [HZL.out, ← HZ.out]; simp [bys_len]
    · rw [HZL.out, ← HZ.out, List.take_of_length_le (by simp [bys_len])]
  · go_simp
    have hB3 : At (w.alloc (.cells Z 5)).drew w.heap.size 5 Z := At.new w 5 Z
    refine hK.out _ _ (fun _ => (show Fr [] w (w.alloc (.cells Z 5)).drew from (by repeat (first | exact Fr.refl _ _ | assumption | refine Fr.trans0 ?_ (by assumption) | refine Fr.drewN ?_ _ | refine Fr.alloc ?_ _ | refine Fr.drew ?_)))) (fun hHeld' => ?_); have hHeld := hHeld' (by decide); clear hHeld' hK K; (try (refine wpAnyL_norm (by simp only [Act.put, List.setIfInBounds_toArray, List.set_cons_zero, List.set_cons_succ]; rfl) ?_))
    obtain ⟨w3, hw3'⟩ : ∃ W, (w.alloc (.cells Z 5)).drew = W := ⟨_, rfl⟩
    rw [hw3'] at hHeld hB3 ⊢
    refine wpAnyL_ready (rs := [2]) (by kernel_rfl) (by simp) ?_; refine AllReadyL.cons rfl (fun K hK => ?_) AllReadyL.nil
    go_simp
    refine (CT.out _).mono ?_
    rintro e w4 ⟨p, g, rfl, hT, hp, hg, hf4⟩
    have hp' : w.heap.size ≤ p := Nat.le_trans hHeld.size hp
    have hg' : w.heap.size ≤ g := Nat.le_trans hHeld.size hg
    have hB := hB3.fr hf4 (by simp)
    have hb' := Nat.le_refl w.heap.size
    refine hK.out _ _ (fun _ => hHeld.trans0 hf4) (fun hHeld' => ?_); have hHeld := hHeld' (by decide); clear hHeld' hK K; (try (refine wpAnyL_norm (by simp only [Act.put, List.setIfInBounds_toArray, List.set_cons_zero, List.set_cons_succ]; rfl) ?_))
    refine wpAnyL_take (i := 5) (v := ?_) rfl (by kernel_rfl) (fun _ _ _ h => h) (Or.inl ⟨by rfl, ?_⟩) (by assumption) ?_; rotate_left; (focus (intro w hSw; skip; go_simp; (try with_reducible rfl))); (try (refine wpAnyL_norm (by simp only [Act.put, List.setIfInBounds_toArray, List.set_cons_zero, List.set_cons_succ]; rfl) ?_))
    refine wpAnyL_ready (rs := [6]) (by kernel_rfl) (by simp) ?_; refine AllReadyL.cons rfl (fun K hK => ?_) AllReadyL.nil
    go_simp
    have hfa : Fr [] w4 (w4.alloc (.cells #[.pointer (some ⟨p, 0, none⟩), .slice (some ⟨w.heap.size, 0, none⟩) N N] 87)) := (by repeat (first | exact Fr.refl _ _ | assumption | refine Fr.trans0 ?_ (by assumption) | refine Fr.drewN ?_ _ | refine Fr.alloc ?_ _ | refine Fr.drew ?_))
    have hAX := At.new w4 87 #[.pointer (some ⟨p, 0, none⟩), .slice (some ⟨w.heap.size, 0, none⟩) N N]
    have hw4 := hHeld.size
    refine hK.out _ _ (fun _ => hHeld.trans0 hfa) (fun hHeld' => ?_); have hHeld := hHeld' (by decide); clear hHeld' hK K; (try (refine wpAnyL_norm (by simp only [Act.put, List.setIfInBounds_toArray, List.set_cons_zero, List.set_cons_succ]; rfl) ?_))
    refine wpAnyL_take (i := 7) (v := ?_) rfl (by kernel_rfl) (fun _ _ _ h => h) (Or.inl ⟨by rfl, ?_⟩) (by assumption) ?_; rotate_left; (focus (intro w hSw; skip; go_simp; (try with_reducible rfl))); (try (refine wpAnyL_norm (by simp only [Act.put, List.setIfInBounds_toArray, List.set_cons_zero, List.set_cons_succ]; rfl) ?_))
    refine wpAnyL_take (i := 8) (v := ?_) rfl (by kernel_rfl) (fun _ _ _ h => h) (Or.inl ⟨by rfl, ?_⟩) (by assumption) ?_; rotate_left; (focus (intro w hSw; skip; go_simp; (try with_reducible rfl))); (try (refine wpAnyL_norm (by simp only [Act.put, List.setIfInBounds_toArray, List.set_cons_zero, List.set_cons_succ]; rfl) ?_))
    refine wpAnyL_done (by kernel_rfl) ?_ _
    go_wp2_with fail
    go_ret2
    refine ⟨_, rfl, p, g, w.heap.size, ⟨N, by rw [HZL.out]; omega, by rw [HZL.out]; omega, by rw [HZL.out]; exact Nat.le_refl _, by omega, Byt.rep N, by rw [HZL.out]; exact hAX, by rw [HZL.out]; exact hT.fr hfa (by simp) (by simp), Z, hB.fr hfa (by simp), ?_, ?_⟩, hw4, by omega, by omega, by omega, hHeld⟩
    · rw [HZL.out, ← HZ.out]; simp [bys_len]
    · rw [HZL.out, ← HZ.out, List.take_of_length_le (by simp [bys_len])]
end Go.Proofs.Ytilgklpponaoeaa
