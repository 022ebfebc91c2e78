/-
  SweepKnown: the chapter's examples. Condition: the table of math/bits is as the library lays it (the row lists it).
-/
import Derived.Test.YthjbnbimfpbccaaGreatDoorJ16









set_option linter.unusedVariables false
namespace Go.Proofs.YthjbnbimfpbccaaGreatDoor
open Go.ChangeShapes Go.WideShapes Go.ChangeAt Go.RowKit
namespace sweepKnown
/-- The k-th page that is left behind pages 3 and 0. -/
def pk (k : Nat) : Nat := if k < 2 then k + 1 else k + 2
def kF (k : Nat) : Nat → Bool := fun j => decide (pk k ≤ j ∧ j < 16 ∧ j ≠ 3)
theorem kF_zero : upd (upd (fstF 16) 3 false) 0 false = kF 0 := by
  funext j
  unfold upd fstF kF pk
  by_cases h0 : j = 0
  · subst h0; rfl
  · rw [if_neg h0]
    by_cases h3 : j = 3
    · subst h3; rfl
    · rw [if_neg h3]
      by_cases h : j < 16
      · rw [decide_eq_true h, decide_eq_true (by simp; omega)]
      · rw [decide_eq_false h, decide_eq_false (by omega)]
theorem kF_upd (k : Nat) (hk : k < 14) : upd (kF k) (pk k) false = kF (k + 1) := by
  funext j
  unfold upd kF
  by_cases h : j = pk k
  · rw [if_pos h, decide_eq_false]
    have h1 : pk k < pk (k + 1) := by unfold pk; split <;> split <;> omega
    omega
  · rw [if_neg h, decide_eq_decide]
    have h1 : pk (k + 1) = pk k + 1 ∨ (pk k = 2 ∧ pk (k + 1) = 4) := by unfold pk; split <;> split <;> omega
    omega
theorem kF_at (k : Nat) (hk : k < 14) : kF k (pk k) = true ∧ pk k < 16 := by
  unfold kF pk
  constructor
  · rw [decide_eq_true]; split <;> omega
  · split <;> omega
theorem kF_nxt (k : Nat) (hk : k < 14) : nxtP (kF k) 16 = pk k ∧ nxtB (kF k) 16 = true := by
  obtain ⟨a1, a2⟩ := kF_at k hk
  rcases nxt_case (kF k) 16 with ⟨_, _, _, h4⟩ | ⟨P, h1, h2, h3, h4, _, h5⟩
  · have := h4 (pk k) a2; rw [a1] at this; cases this
  · have : P = pk k := by
      have h6 : pk k ≤ P := by unfold kF at h2; simp only [decide_eq_true_eq] at h2; exact h2.1
      rcases Nat.lt_or_ge (pk k) P with h7 | h7
      · have := h5 _ h7; rw [a1] at this; cases this
      · omega
    subst this
    exact ⟨h3, h4⟩
theorem pg_none (bs : List Nat) (P : Int) : pgT bs wkH (tgs []) (tgP 4096 (tgs []) P) = tgs [] := by
  rw [← tgs_nil]; funext j; unfold pgT; rfl
theorem own_len {w : World} {b : Nat} {t : TypeId} {v : Value} {xs : List Value} (h : w.ownsRow b t 1 v 0 xs) : ∃ a c, v = .slice a 0 c := by
  obtain ⟨a, c, rfl, _⟩ := own_slice h
  exact ⟨a, c, rfl⟩
section
variable {w0 w : World} {i : Ids} {bs : List Nat} {f : Nat → Bool} {h : Int → Bool} {m : MS}
theorem K.old0 (o : On w0 w i ⟨0, 0, fun _ => false, m, bs, f, h⟩) : Calls Tryz.prog 11 #[.pointer (some ⟨i.sp, 0, none⟩), .int .i64 0] w fun r w' => r = .returned (.bool false) ∧ w = w' := on_old o (by show 0 ≤ 2; omega) 0
theorem K.old1 (o : On w0 w i ⟨1, 0, fstF 16, m, bs, f, h⟩) : Calls Tryz.prog 11 #[.pointer (some ⟨i.sp, 0, none⟩), .int .i64 0] w fun r w' => r = .returned (.bool true) ∧ w = w' := on_old o (by show 1 ≤ 2; omega) 0
theorem K.old3 (o : On w0 w i ⟨2, 1, upd (fstF 16) 3 false, m, bs, f, h⟩) : Calls Tryz.prog 11 #[.pointer (some ⟨i.sp, 0, none⟩), .int .i64 3] w fun r w' => r = .returned (.bool false) ∧ w = w' := on_old o (by show 2 ≤ 2; omega) 3
theorem K.left0 (o : On w0 w i ⟨0, 0, fun _ => false, m, bs, f, h⟩) : Calls Tryz.prog 9 #[.pointer (some ⟨i.sp, 0, none⟩)] w fun r w' => r = .returned (.int .i64 0) ∧ w = w' := by
  have h2 := on_left o
  rw [show (cnt (Sm.F ⟨0, 0, fun _ => false, m, bs, f, h⟩) 16 : Nat) = 0 from rfl] at h2
  exact h2
theorem K.left16 (o : On w0 w i ⟨1, 0, fstF 16, m, bs, f, h⟩) : Calls Tryz.prog 9 #[.pointer (some ⟨i.sp, 0, none⟩)] w fun r w' => r = .returned (.int .i64 16) ∧ w = w' := by
  have h2 := on_left o
  rw [show (cnt (Sm.F ⟨1, 0, fstF 16, m, bs, f, h⟩) 16 : Nat) = 16 from rfl] at h2
  exact h2
theorem K.left14 (o : On w0 w i ⟨2, 2, kF 0, m, bs, f, h⟩) : Calls Tryz.prog 9 #[.pointer (some ⟨i.sp, 0, none⟩)] w fun r w' => r = .returned (.int .i64 14) ∧ w = w' := by
  have h2 := on_left o
  rw [show (cnt (Sm.F ⟨2, 2, kF 0, m, bs, f, h⟩) 16 : Nat) = 14 from rfl] at h2
  exact h2
theorem K.stop0 (o : On w0 w i ⟨0, 0, fun _ => false, m, bs, f, h⟩) : Calls Tryz.prog 20 #[.pointer (some ⟨i.sp, 0, none⟩)] w fun r w' => r = .returned (.bool false) ∧ w = w' := on_stop o
theorem K.stop1 (o : On w0 w i ⟨1, 0, fstF 16, m, bs, f, h⟩) : Calls Tryz.prog 20 #[.pointer (some ⟨i.sp, 0, none⟩)] w fun r w' => r = .returned (.bool true) ∧ w = w' := on_stop o
theorem K.stop2 (o : On w0 w i ⟨2, 0, fstF 16, m, bs, f, h⟩) : Calls Tryz.prog 20 #[.pointer (some ⟨i.sp, 0, none⟩)] w fun r w' => r = .returned (.bool false) ∧ w = w' := on_stop o
theorem K.vis16 (o : On w0 w i ⟨0, 16, kF 14, m, bs, f, h⟩) : Calls Tryz.prog 15 #[.pointer (some ⟨i.sp, 0, none⟩)] w fun r w' => r = .returned (.int .u64 16) ∧ w = w' := on_vis o
end
theorem lit14_at (k : Nat) (hk : k < 14) : ([.int .i64 1, .int .i64 2, .int .i64 4, .int .i64 5, .int .i64 6, .int .i64 7, .int .i64 8, .int .i64 9, .int .i64 10, .int .i64 11, .int .i64 12, .int .i64 13, .int .i64 14, .int .i64 15] : List Value)[k]'hk = .int .i64 (pk k : Nat) := by
  match k, hk with
  | 0, _ | 1, _ | 2, _ | 3, _ | 4, _ | 5, _ | 6, _ | 7, _ | 8, _ | 9, _ | 10, _ | 11, _ | 12, _ | 13, _ => rfl
  | k + 14, h => omega
set_option maxHeartbeats 8000000 in
set_option maxRecDepth 100000 in
theorem walk (w : World) (hT : Tab w) : Calls Tryz.prog 4 #[] w fun r w' => r = .returned (.bool true) ∧ Fr [] w w' := by
  have HT := Lib.hid hT
  have CB := Lib.hid (begun_any w hT)
  obtain ⟨B, hB⟩ : ∃ B, List.replicate 4096 0 = B := ⟨_, rfl⟩
  rw [hB] at CB
  have hBl : B.length = 4096 := by rw [← hB]; exact List.length_replicate
  have CO := Lib.hid fun W => (show Calls Tryz.prog 19 #[.int .u32 512, .int .u32 64] W fun r w' => r = .returned (.agg wkC.cells) ∧ Fr [] W w' from by
    have h := of_anyC W 512 64 (by omega) (by omega)
    rw [wk_of.1] at h
    exact h)
  have hvs : (wkC.v && soundB wkC) = true := by rw [wk_of.2.2, wk_ok.2.2]; rfl
  have l1 : (scL B (16 * 0) wkC).length = 4096 := by rw [scL_len, hBl]
  have a1 := scL_sub B 0 wkC hBl (by omega)
  have g1 : scF B (fun _ => false) (16 * 0) wkC = tgs [0] := by rw [tgs_nil]; exact scF_tgs B [] 0 wkC hBl (by omega) hvs
  rw [Nat.mul_zero] at l1 a1 g1
  obtain ⟨b1, e1⟩ : ∃ x, scL B 0 wkC = x := ⟨_, rfl⟩
  rw [e1] at l1 a1
  have l2 : (scL b1 (16 * 16) wkC).length = 4096 := by rw [scL_len, l1]
  have a2 := scL_sub b1 16 wkC l1 (by omega)
  have a3 := (scL_far b1 16 0 wkC (by omega)).trans (show sub b1 (16 * 0) 16 = bytesC wkC from a1)
  have g2 : scF b1 (tgs [0]) (16 * 16) wkC = tgs [16, 0] := scF_tgs b1 [0] 16 wkC l1 (by omega) hvs
  obtain ⟨bs, e2⟩ : ∃ x, scL b1 (16 * 16) wkC = x := ⟨_, rfl⟩
  rw [e2] at l2 a2 a3
  have s0 : sU bs wkH 0 = true := wk_stale bs 0 a3
  have s16 : sU bs wkH 256 = true := wk_stale bs 16 a2
  have p3 : pgT bs wkH (tgs [16, 0]) (tgP 4096 (tgs [16, 0]) 3) = tgs [16, 0] := by rw [show tgP 4096 (tgs [16, 0]) 3 = [] by decide +kernel, pgT_nil]
  have p0 : pgT bs wkH (tgs [16, 0]) (tgP 4096 (tgs [16, 0]) 0) = tgs [16] := by
    rw [show tgP 4096 (tgs [16, 0]) 0 = [0] by decide +kernel]
    refine pgT_tgs bs wkH _ _ _ fun j => ?_
    simp only [List.mem_cons, List.not_mem_nil, or_false]
    constructor
    · rintro rfl; exact ⟨.inl rfl, fun h => by omega⟩
    · rintro ⟨rfl | rfl, h⟩
      · rfl
      · exact absurd ⟨rfl, s0⟩ h
  have p1 : pgT bs wkH (tgs [16]) (tgP 4096 (tgs [16]) 1) = tgs [] := by
    rw [show tgP 4096 (tgs [16]) 1 = [256] by decide +kernel]
    refine pgT_tgs bs wkH _ _ _ fun j => ?_
    simp only [List.mem_cons, List.not_mem_nil, or_false]
    constructor
    · intro h; exact h.elim
    · rintro ⟨rfl, h⟩; exact absurd ⟨rfl, s16⟩ h
  have L0 := Lib.hid hBl
  have L1 := Lib.hid l1
  have L2 := Lib.hid l2
  have CF := Lib.hid fun W i (h : On w W i ⟨0, 0, fun _ => false, ⟨256, 0, false, [], []⟩, B, fun _ => false, nohs⟩) => (show Calls Tryz.prog 17 #[.pointer (some ⟨i.y, 0, none⟩), .agg #[.int .u32 512, .int .u32 64]] W fun e w' => e = .returned (.bool true) ∧ On w w' i ⟨0, 0, fun _ => false, ⟨256, 0, false, [(512, 64)], []⟩, B, fun _ => false, nohs⟩ from by
    have h := on_free h 512 64 (by omega) (by omega)
    dsimp only at h
    rw [wk_free.1, wk_free.2] at h
    exact h.mono fun e w' ⟨h1, h2, _⟩ => ⟨h1, h2⟩)
  have CS := Lib.hid fun W i (h : On w W i ⟨0, 0, fun _ => false, ⟨256, 0, false, [(512, 64)], []⟩, B, fun _ => false, nohs⟩) => (show Calls Tryz.prog 18 #[.pointer (some ⟨i.ap, 0, none⟩), .int .u32 0, .agg wkC.cells] W fun e w' => e = .returned (.bool true) ∧ On w w' i ⟨0, 0, fun _ => false, ⟨256, 0, false, [(512, 64)], []⟩, b1, tgs [0], nohs⟩ from by
    have h := on_storec h 0 (by omega) wkC wk_ok.1
    dsimp only at h
    rw [show whB B.length 0 = true by rw [L0.out]; rfl, e1, g1] at h
    exact h.mono fun e w' ⟨h1, h2, _⟩ => ⟨h1, h2⟩)
  have CT := Lib.hid fun W i (h : On w W i ⟨0, 0, fun _ => false, ⟨256, 0, false, [(512, 64)], []⟩, b1, tgs [0], nohs⟩) => (show Calls Tryz.prog 18 #[.pointer (some ⟨i.ap, 0, none⟩), .int .u32 256, .agg wkC.cells] W fun e w' => e = .returned (.bool true) ∧ On w w' i ⟨0, 0, fun _ => false, ⟨256, 0, false, [(512, 64)], []⟩, bs, tgs [16, 0], nohs⟩ from by
    have h := on_storec h (16 * 16) (by omega) wkC wk_ok.1
    dsimp only at h
    rw [show whB b1.length (16 * 16) = true by rw [L1.out]; rfl, e2, g2] at h
    exact h.mono fun e w' ⟨h1, h2, _⟩ => ⟨h1, h2⟩)
  have CV3 := Lib.hid fun W i (h : On w W i ⟨2, 0, fstF 16, ⟨256, 1, true, [], [(512, 64)]⟩, bs, tgs [16, 0], wkH⟩) => (show Calls Tryz.prog 12 #[.pointer (some ⟨i.sp, 0, none⟩), .int .i64 3] W fun r w' => r = .returned (.bool true) ∧ On w w' i ⟨2, 1, upd (fstF 16) 3 false, ⟨256, 1, true, [], [(512, 64)]⟩, bs, tgs [16, 0], wkH⟩ from by
    have h := on_visit_yes h 3 (by omega) rfl rfl (by show 0 < 1000000; omega)
    dsimp only at h
    rw [L2.out, show ((3 : Nat) : Int) = 3 from rfl, p3] at h
    exact h.mono fun e w' ⟨h1, h2, _⟩ => ⟨h1, h2⟩)
  have CP0 := Lib.hid fun W i (h : On w W i ⟨2, 1, upd (fstF 16) 3 false, ⟨256, 1, true, [], [(512, 64)]⟩, bs, tgs [16, 0], wkH⟩) => (show Calls Tryz.prog 14 #[.pointer (some ⟨i.sp, 0, none⟩)] W fun r w' => r = .returned (.tuple #[.int .i64 0, .bool true]) ∧ On w w' i ⟨2, 2, kF 0, ⟨256, 1, true, [], [(512, 64)]⟩, bs, tgs [16], wkH⟩ from by
    have ny : nxtP (upd (fstF 16) 3 false) 16 = ((0 : Nat) : Int) ∧ nxtB (upd (fstF 16) 3 false) 16 = true := by decide
    have h := on_page_yes h 0 (by omega) rfl ny.2 ny.1 rfl (by show 1 < 1000000; omega)
    dsimp only at h
    rw [L2.out, show ((0 : Nat) : Int) = 0 from rfl, p0, kF_zero] at h
    exact h.mono fun e w' ⟨h1, h2, _⟩ => ⟨h1, h2⟩)
  have CPK := Lib.hid fun W i k f (hk : k < 14) (hf : k = 0 ∧ f = tgs [16] ∨ 1 ≤ k ∧ f = tgs []) (h : On w W i ⟨2, k + 2, kF k, ⟨256, 1, true, [], [(512, 64)]⟩, bs, f, wkH⟩) => (show Calls Tryz.prog 14 #[.pointer (some ⟨i.sp, 0, none⟩)] W fun r w' => r = .returned (.tuple #[.int .i64 (pk k : Nat), .bool true]) ∧ On w w' i ⟨2, k + 1 + 2, kF (k + 1), ⟨256, 1, true, [], [(512, 64)]⟩, bs, tgs [], wkH⟩ from by
    have h := on_page_yes h (pk k) (kF_at k hk).2 (kF_at k hk).1 (kF_nxt k hk).2 (kF_nxt k hk).1 rfl (by show k + 2 < 1000000; omega)
    dsimp only at h
    have e : pgT bs wkH f (tgP 4096 f (pk k : Nat)) = tgs [] := by
      rcases hf with ⟨rfl, rfl⟩ | ⟨_, rfl⟩
      · exact p1
      · exact pg_none bs _
    rw [L2.out, e, kF_upd k hk] at h
    exact h.mono fun e w' ⟨h1, h2, _⟩ => ⟨h1, h2⟩)
  have CG0 := Lib.hid fun W i (h : On w W i ⟨2, 2, kF 0, ⟨256, 1, true, [], [(512, 64)]⟩, bs, tgs [16], wkH⟩) => (show Calls Tryz.prog 21 #[.pointer (some ⟨i.ap, 0, none⟩), .int .i64 0] W fun e w' => ∃ a c, e = .returned (.slice a 0 c) ∧ Fr [] W w' from by
    have h := on_tagged h 0
    dsimp only at h
    rw [L2.out, show tgP 4096 (tgs [16]) 0 = [] by decide +kernel] at h
    exact h.mono fun e w' ⟨v, h1, h2, h3⟩ => by
      obtain ⟨a, c, rfl⟩ := own_len h2
      exact ⟨a, c, h1, h3⟩)
  have CG1 := Lib.hid fun W i m (h : On w W i ⟨0, 16, kF 14, m, bs, tgs [], wkH⟩) => (show Calls Tryz.prog 21 #[.pointer (some ⟨i.ap, 0, none⟩), .int .i64 1] W fun e w' => ∃ a c, e = .returned (.slice a 0 c) ∧ Fr [] W w' from by
    have h := on_tagged h 1
    dsimp only at h
    rw [L2.out, show tgP 4096 (tgs []) 1 = [] by decide +kernel] at h
    exact h.mono fun e w' ⟨v, h1, h2, h3⟩ => by
      obtain ⟨a, c, rfl⟩ := own_len h2
      exact ⟨a, c, h1, h3⟩)
  clear hB hBl hvs l1 a1 g1 e1 l2 a2 a3 g2 e2 s0 s16 p3 p0 p1 hT
  go_enter Tryz.func4, Tryz.ntmps4
  go_wp2_with fail
  refine CB.out.mono ?_
  rintro e w1 ⟨i, rfl, hon, hia⟩
  have O1 := Lib.hid hon
  clear hon CB hia
  go_wp2_with fail
  refine (CF.out _ _ O1.out).mono ?_
  rintro e w2 ⟨rfl, ho⟩
  have O2 := Lib.hid ho
  clear ho O1 CF
  go_wp2_with fail
  refine (CO.out _).mono ?_
  rintro e w3 ⟨rfl, hf⟩
  have O3 := Lib.hid (O2.out.fr0 hf)
  clear hf O2
  go_wp2_with fail
  refine (CS.out _ _ O3.out).mono ?_
  rintro e w4 ⟨rfl, ho⟩
  have O4 := Lib.hid ho
  clear ho O3 CS
  go_wp2_with fail
  refine (CO.out _).mono ?_
  rintro e w5 ⟨rfl, hf⟩
  have O5 := Lib.hid (O4.out.fr0 hf)
  clear hf O4
  go_wp2_with fail
  refine (CT.out _ _ O5.out).mono ?_
  rintro e w6 ⟨rfl, ho⟩
  have O6 := Lib.hid ho
  clear ho O5 CT
  go_wp2_with fail
  refine (on_page_out O6.out (by show 0 ≠ 2; omega)).mono ?_
  rintro e w' ⟨rfl, rfl⟩
  go_wp2_with fail
  refine (on_end_out O6.out (by show 0 ≠ 2; omega)).mono ?_
  rintro e w7 ⟨rfl, hf⟩
  have O7 := Lib.hid (O6.out.fr0 hf)
  clear hf O6
  go_wp2_with fail
  refine (on_go_no O7.out (by show 0 ≠ 1; omega)).mono ?_
  rintro e w' ⟨rfl, rfl⟩
  go_wp2_with fail
  refine (K.old0 O7.out).mono ?_
  rintro e w' ⟨rfl, rfl⟩
  go_wp2_with fail
  refine (K.left0 O7.out).mono ?_
  rintro e w' ⟨rfl, rfl⟩
  go_wp2_with fail
  refine (K.stop0 O7.out).mono ?_
  rintro e w' ⟨rfl, rfl⟩
  go_wp2_with fail
  refine (on_begin_yes O7.out rfl (by show 0 < 1000000; omega)).mono ?_
  rintro e w8 ⟨rfl, ho, -⟩
  have O8 := Lib.hid (show On w w8 i ⟨1, 0, fstF 16, ⟨256, 1, true, [], [(512, 64)]⟩, bs, tgs [16, 0], wkH⟩ from ho)
  clear ho O7
  go_wp2_with fail
  refine (on_begin_no O8.out (by show 1 ≠ 0; omega)).mono ?_
  rintro e w9 ⟨rfl, hf⟩
  have O9 := Lib.hid (O8.out.fr0 hf)
  clear hf O8
  go_wp2_with fail
  refine (on_page_out O9.out (by show 1 ≠ 2; omega)).mono ?_
  rintro e w' ⟨rfl, rfl⟩
  go_wp2_with fail
  refine (on_end_out O9.out (by show 1 ≠ 2; omega)).mono ?_
  rintro e w10 ⟨rfl, hf⟩
  have O10 := Lib.hid (O9.out.fr0 hf)
  clear hf O9
  go_wp2_with fail
  refine (K.stop1 O10.out).mono ?_
  rintro e w' ⟨rfl, rfl⟩
  go_wp2_with fail
  refine (K.left16 O10.out).mono ?_
  rintro e w' ⟨rfl, rfl⟩
  go_wp2_with fail
  refine (on_visit_out O10.out 0 (by show 1 ≠ 2; omega)).mono ?_
  rintro e w11 ⟨rfl, hf⟩
  have O11 := Lib.hid (O10.out.fr0 hf)
  clear hf O10
  go_wp2_with fail
  refine (K.old1 O11.out).mono ?_
  rintro e w' ⟨rfl, rfl⟩
  go_wp2_with fail
  refine (on_go_yes O11.out rfl).mono ?_
  rintro e w12 ⟨rfl, ho, -⟩
  have O12 := Lib.hid (show On w w12 i ⟨2, 0, fstF 16, ⟨256, 1, true, [], [(512, 64)]⟩, bs, tgs [16, 0], wkH⟩ from ho)
  clear ho O11
  go_wp2_with fail
  refine (K.stop2 O12.out).mono ?_
  rintro e w' ⟨rfl, rfl⟩
  go_wp2_with fail
  refine (CV3.out _ _ O12.out).mono ?_
  rintro e w13 ⟨rfl, ho⟩
  have O13 := Lib.hid ho
  clear ho O12 CV3
  go_wp2_with fail
  refine (on_visit_no O13.out 3 rfl (by rfl)).mono ?_
  rintro e w14 ⟨rfl, hf⟩
  have O14 := Lib.hid (O13.out.fr0 hf)
  clear hf O13
  go_wp2_with fail
  refine (K.old3 O14.out).mono ?_
  rintro e w' ⟨rfl, rfl⟩
  go_wp2_with fail
  refine (on_visit_no O14.out 16 rfl (by rfl)).mono ?_
  rintro e w15 ⟨rfl, hf⟩
  have O15 := Lib.hid (O14.out.fr0 hf)
  clear hf O14
  go_wp2_with fail
  refine (on_visit_no O15.out (-1) rfl (by rfl)).mono ?_
  rintro e w16 ⟨rfl, hf⟩
  have O16 := Lib.hid (O15.out.fr0 hf)
  clear hf O15
  go_wp2_with fail
  refine (CP0.out _ _ O16.out).mono ?_
  rintro e w17 ⟨rfl, ho⟩
  have O17 := Lib.hid ho
  clear ho O16 CP0
  go_wp2_with fail
  refine (on_end_no O17.out rfl (show cnt (kF 0) 16 ≠ 0 from by decide)).mono ?_
  rintro e w18 ⟨rfl, hf⟩
  have O18 := Lib.hid (O17.out.fr0 hf)
  clear hf O17
  go_wp2_with fail
  refine (CG0.out _ _ O18.out).mono ?_
  rintro e w19 ⟨a19, c19, rfl, hf⟩
  have O19 := Lib.hid (O18.out.fr0 hf)
  clear hf O18
  go_wp2_with fail
  refine (K.left14 O19.out).mono ?_
  rintro e w' ⟨rfl, rfl⟩
  go_wp2_with fail
  go_loopw [13] (fun v wr => ∃ (k : Nat) (f : Nat → Bool), k ≤ 14 ∧ v = .int .i64 k ∧ On w wr i ⟨2, k + 2, kF k, ⟨256, 1, true, [], [(512, 64)]⟩, bs, f, wkH⟩ ∧ (k = 0 ∧ f = tgs [16] ∨ 1 ≤ k ∧ f = tgs [])) (fun v _ => 14 - (intOf v).toNat)
  case atStart => exact ⟨0, _, by omega, rfl, O19.out, .inl ⟨rfl, rfl⟩⟩
  case round =>
    clear O19
    obtain ⟨k, f, hk, rfl, hon, hf⟩ := hrel
    have O20 := Lib.hid hon
    have HF := Lib.hid hf
    clear hon hf
    by_cases h1 : k < 14
    · have CP := Lib.hid (CPK.out _ _ k f h1 HF.out O20.out)
      clear O20
      have HG := Lib.hid (lit14_at k h1)
      obtain ⟨p, hp⟩ : ∃ p, pk k = p := ⟨_, rfl⟩
      rw [hp] at CP HG
      have hk0 : (0 : Int) ≤ (k : Int) := by omega
      have hk14 : (k : Int) < 14 := by omega
      clear hp
      go_wp2_with fail
      refine CP.out.mono ?_
      rintro e w21 ⟨rfl, ho⟩
      have O21 := Lib.hid ho
      clear ho CP
      go_upto_region 22 with (fail)
      have hg := HG.out
      go_wp2_with fail
      go_roundw
      case rel => exact ⟨k + 1, _, by omega, by go_num, O21.out.fr0 (by repeat (first | exact Fr.refl _ _ | assumption | refine Fr.trans0 ?_ (by assumption) | refine Fr.drewN ?_ _ | refine Fr.alloc ?_ _ | refine Fr.drew ?_)), .inr ⟨by omega, rfl⟩⟩
      case measure => simp [intOf]; omega
    · obtain rfl : k = 14 := by omega
      obtain rfl : f = tgs [] := by rcases HF.out with ⟨h, _⟩ | ⟨_, h⟩; omega; exact h
      go_wp2_with fail
      refine (on_page_no O20.out rfl (show nxtB (kF 14) 16 = false from by decide)).mono ?_
      rintro e w22 ⟨rfl, hf⟩
      have O22 := Lib.hid (O20.out.fr0 hf)
      clear hf O20
      go_wp2_with fail
      refine (on_end_yes O22.out rfl (show cnt (kF 14) 16 = 0 from by decide)).mono ?_
      rintro e w23 ⟨v, rfl, hr, ho, -⟩
      have O23 := Lib.hid (show On w w23 i ⟨0, 16, kF 14, ⟨256, 1, false, [], []⟩, bs, tgs [], wkH⟩ from ho)
      rcases rows_open (show w23.ownsRow 0 45 2 v 1 (rgv [(512, 64)]) from hr) with ⟨_, h0⟩ | ⟨g, cap, cur, rfl, -, hA, g1, g2, g3, g4⟩
      · omega
      have q0 := rows_at (n := 1) (cap := cap) hA g4 0 0 (.int .u32 512) rfl
      have q1 := rows_at (n := 1) (cap := cap) hA g4 0 1 (.int .u32 64) rfl
      simp only [Nat.zero_add, Nat.add_zero] at q0 q1
      have Q0 := Lib.hid q0
      have Q1 := Lib.hid q1
      have hgl := Lib.hid hA.lt
      clear ho O22 hr hA g1 g2 g3 g4 q0 q1
      go_wp2_with fail
      refine (on_end_out O23.out (by show 0 ≠ 2; omega)).mono ?_
      rintro e w24 ⟨rfl, hf⟩
      have O24 := Lib.hid (O23.out.fr0 hf)
      have G24 := Lib.hid hf
      clear hf O23
      go_wp2_with fail
      refine (K.vis16 O24.out).mono ?_
      rintro e w' ⟨rfl, rfl⟩
      go_wp2_with fail
      refine (CG1.out _ _ _ O24.out).mono ?_
      rintro e w25 ⟨a25, c25, rfl, hf⟩
      have O25 := Lib.hid (O24.out.fr0 hf)
      have q0 := ((G24.out.trans0 hf).cell (a := ⟨g, 0, none⟩) hgl.out (by simp)).trans Q0.out
      have q1 := ((G24.out.trans0 hf).cell (a := ⟨g, 1, none⟩) hgl.out (by simp)).trans Q1.out
      clear hf O24 G24
      have EQ := fun W => rg_eq 512 64 512 64 W
      simp only [decide_true, Bool.and_true] at EQ
      go_wp2_with fail
      refine (swnew_nil _ none _ (.inl rfl)).mono ?_
      rintro e w' ⟨rfl, rfl⟩
      go_wp2_with fail
      refine (swnew_nil _ _ none (.inr rfl)).mono ?_
      rintro e w' ⟨rfl, rfl⟩
      go_wp2_with fail
      refine (swbegin_nil _).mono ?_
      rintro e w26 ⟨rfl, hf26⟩
      go_wp2_with fail
      refine (swpage_nil _).mono ?_
      rintro e w' ⟨rfl, rfl⟩
      go_wp2_with fail
      refine (swend_nil _).mono ?_
      rintro e w27 ⟨rfl, hf27⟩
      go_wp2_with fail
      refine (swgo_nil _).mono ?_
      rintro e w' ⟨rfl, rfl⟩
      go_wp2_with fail
      refine (swvisit_nil _ 0).mono ?_
      rintro e w28 ⟨rfl, hf28⟩
      go_wp2_with fail
      refine (swold_nil _ 0).mono ?_
      rintro e w' ⟨rfl, rfl⟩
      go_wp2_with fail
      refine (swstop_nil _).mono ?_
      rintro e w' ⟨rfl, rfl⟩
      go_wp2_with fail
      refine (swleft_nil _).mono ?_
      rintro e w' ⟨rfl, rfl⟩
      go_wp2_with fail
      refine (swvis_nil _).mono ?_
      rintro e w' ⟨rfl, rfl⟩
      have F28 := Lib.hid (((O25.out.f.trans0 hf26).trans0 hf27).trans0 hf28)
      go_wp2_with fail
      refine (works_any _ (HT.out.fr F28.out (by simp))).mono ?_
      rintro e w29 ⟨rfl, hf29⟩
      go_wp2_with fail
      go_ret
      exact ⟨rfl, F28.out.trans0 hf29⟩
theorem laidOut : laidOutB Tryz.prog = true := by kernel_rfl
set_option maxRecDepth 100000 in
theorem lifted (os : Os) (started : os.Started) (H : Type) (enc : TypeId × Value → H) :
    ReturnsInHanded {} Tryz.checked os 4 .any (fun w args => (Rows.sweepKnownSpec.pre enc Tryz.prog Tryz.f4 [] false w args ∧ laidMetH Tryz.prog laidL w) ∧ sizedMet enc Tryz.prog Tryz.f4 (OpenSpec.ofChange Rows.sweepKnownSpec) false w args) (Rows.sweepKnownSpec.post enc Tryz.prog Tryz.f4 false true false false) := by
  refine returnsInHanded_of_change_and (C := Tryz.checked) (X := fun w _ => laidMetH Tryz.prog laidL w) (fun _ _ _ hh h => h.of_heap hh) own started (by kernel_rfl) Tryz.func4
    (ChangeSpec.witness_at (enc := enc) (C := Tryz.checked) (os := os) (X := fun w _ => laidMetH Tryz.prog laidL w) false (laidWorld os) #[] 8 rfl (by kernel_rfl) (by kernel_rfl) (by kernel_rfl) (by kernel_rfl) (by kernel_rfl) (laidWorld_met os _)) ?_
  intro W base args ds gs before hval0 hW _ _ hL _
  have hT := tab_of_laid hL
  have hval : ∀ (j : Nat) t v, Tryz.f4.params[j]? = some t → args[j]? = some v → Value.okWide Tryz.prog W .any base t v := hval0
  have hW' := hW
  obtain ⟨p, q, hA0, hV, rfl, hfz, hnd⟩ := hW
  have hA : DataW.TrodAll enc Tryz.prog W 0 (fun _ => true) true Tryz.f4.params.toList args.toList ds p := hA0
  rw [Tryz.params4] at hA hval
  obtain ⟨rfl, rfl, rfl⟩ := trodAll_none hA
  obtain ⟨rfl, rfl⟩ := trodVars_none hV
  clear hA0 hval0
  simp only [List.append_nil] at hW'
  refine (walk  W hT).mono fun e W' ⟨he, hg⟩ => ?_
  subst he
  exact ⟨_, rfl, post_fr (pa := []) (pv := []) hW' (fun _ _ _ => (trodAll_cons_mk (shut_bool Tryz.underlying4 _) trodAll_mk0)) (fun sp _ => rfl) (fun _ _ => rfl) rfl
    hg (ok_one (by kernel_rfl) rfl (okWide_bool_mk Tryz.underlying4 _))⟩
theorem over : Rows.sweepKnownRow.holds Tryz.pinned (OpenSpec.ofChange Rows.sweepKnownSpec) :=
  OpenClaim.holds_of_wide 4 Tryz.f4 rfl rfl rfl rfl rfl rfl rfl ⟨rfl, rfl, rfl, rfl, rfl⟩ rfl rfl rfl rfl rfl (by kernel_rfl) Tryz.func4 (by kernel_rfl)
    (of_decide_eq_true (by kernel_rfl)) (by unfold Func.isWrapper; first | (rw [if_pos (by decide +kernel)]; kernel_rfl) | (rw [if_neg (by decide +kernel)]; exact ⟨rfl, rfl⟩))
    (fun os started H enc _ => lifted os started H enc)
set_option maxRecDepth 100000 in
/-- The card, tied. -/
theorem proved : Rows.SweepKnownCardSaid :=
  Claim7.holds_tied_plain_at .later [] [.data] true (true, "3062cd3652c7f1f2e100f7b0f94cb3f25dbd22d1cdbeb8dec48f85c1172530cd") false
    over (fun _ h => by cases h) (by kernel_rfl) (fun _ h => by cases h) sweepKnown_row_tie rfl ⟨rfl, rfl⟩ (by kernel_rfl) rfl
    (fun f fn hf hfn => by
      obtain rfl : f = 4 := Option.some.inj ((show Tryz.prog.funcNamed "fallow/fallowlaw19.SweepKnown" = some 4 by kernel_rfl).symm.trans hf) |>.symm
      obtain rfl : fn = Tryz.f4 := (Option.some.inj (Tryz.func4.symm.trans hfn)).symm
      exact ⟨by kernel_rfl, fun j t ht => by
        have hm : t ∈ Tryz.f4.params.toList := by simpa using Array.mem_of_getElem? ht
        have hall : (Tryz.f4.params.toList.all fun u => !Tryz.prog.wantsStandIn u) = true := by kernel_rfl
        exact (show Tryz.prog.wantsStandIn t = false by simpa using List.all_eq_true.1 hall t hm)⟩)
    (by kernel_rfl)
end sweepKnown
end Go.Proofs.YthjbnbimfpbccaaGreatDoor
