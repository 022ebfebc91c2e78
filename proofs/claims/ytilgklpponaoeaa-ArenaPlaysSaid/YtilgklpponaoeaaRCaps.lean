/-
  The reference's StoreCap, LoadCap, Untag. Condition: numbers in their types' ranges.
-/





import Derived.Test.YtilgklpponaoeaaRWrite
import Derived.Test.YtilgklpponaoeaaFrameH
set_option linter.unusedVariables false
namespace Go.Proofs.Ytilgklpponaoeaa
open Go.ChangeShapes Go.WideShapes Go.ChangeAt Go.RowKit
theorem i32w (n : Nat) (h : n < 4294967296) : IntKind.u32.wrap (n : Int) = n := by
  simp [IntKind.wrap, IntKind.signed, IntKind.bits]; omega
set_option maxHeartbeats 2000000 in
set_option maxRecDepth 100000 in
theorem rstorec_any (w : World) (r bb tb cb ct : Nat) (bs : List Nat) (f : Nat → Bool) (h : Ra w r bb tb cb ct bs f) (a : Nat) (ha : a < 4294967296) (c : Cp) (hc : c.Ok) :
    Calls Try.prog 17 #[.pointer (some ⟨r, 0, none⟩), .int .u32 a, .agg c.cells] w fun e w' => e = .returned (.bool (whB bs.length a)) ∧ Ra w' r bb tb cb ct (scL bs a c) (scF bs f a c) ∧ Fr [bb, tb] w w' := by
  have hrl := h.lt
  have A0 := Lib.hid (At.new w 38 c.cells)
  have F0 := Lib.hid (show Fr [] w (w.alloc (.cells c.cells 38)) from (by repeat (first | exact Fr.refl _ _ | assumption | refine Fr.trans0 ?_ (by assumption) | refine Fr.drewN ?_ _ | refine Fr.alloc ?_ _ | refine Fr.drew ?_)))
  have R0 := Lib.hid (h.fr0 F0.out)
  obtain ⟨w1, hw1⟩ : ∃ W, w.alloc (.cells c.cells 38) = W := ⟨_, rfl⟩
  rw [hw1] at A0 F0 R0
  have CT := Lib.hid (show Calls Try.prog 56 #[.pointer (some ⟨r, 0, none⟩), .int .u32 a, .int .i64 16] w1 fun e w' => e = .returned (.bool (decide (a + 16 ≤ bs.length))) ∧ w1 = w' from by
    have := rthere_any w1 r bb tb cb ct bs f R0.out a ha 16 (by omega) (by omega)
    rw [show (16 : Int) = ((16 : Nat) : Int) from rfl, thB_nat] at this
    exact this)
  have t1 : (a : Int).tmod 16 = (a : Int) % 16 := Int.tmod_eq_emod_of_nonneg (by omega)
  have HW1 := Lib.hid hw1
  have HI := Lib.hid (show (Try.prog.info? 38).map (·.size) = some c.cells.size from infoCapZ)
  clear hw1
  by_cases hm : a % 16 = 0
  · have e1 : ((a : Int) % 16 != 0) = false := by simp; omega
    by_cases hfit : a + 16 ≤ bs.length
    · have hwh : whB bs.length a = true := by unfold whB; simp; omega
      have hL : scL bs a c = wrL bs a (bytesC c) := by unfold scL; rw [if_pos hwh]
      have hF : scF bs f a c = upd (wrF bs f a (bytesC c)) (a / 16) (c.v && soundB c) := by unfold scF stF; rw [if_pos hwh]
      rw [hwh, hL, hF]
      rw [decide_eq_true hfit] at CT
      have hbl := h.le
      have h16 := h.m16
      have CB := Lib.hid (rbytes_any w1 c hc)
      have CWR := Lib.hid fun W (hW : Fr [] w1 W) => rwrite_any W r bb tb cb ct bs f (R0.out.fr0 hW) a ha (bytesC c) (by
        unfold bytesC
        exact (((((((le_byt _ _).append (le_byt _ _)).append (le_byt _ _)).append (le_byt _ _)).append (le_byt _ _)).append (le_byt _ _)).append (le_byt _ _)).append (le_byt _ _)) (by rw [bytesC_len]; omega)
      rw [bytesC_len, decide_eq_true hfit] at CWR
      have hll : (wrL bs a (bytesC c)).length = bs.length := wrL_len _ _ _
      obtain ⟨BL, hBL⟩ : ∃ l, wrL bs a (bytesC c) = l := ⟨_, rfl⟩
      obtain ⟨FF, hFF⟩ : ∃ l, wrF bs f a (bytesC c) = l := ⟨_, rfl⟩
      rw [hBL] at CWR hll ⊢
      rw [hFF] at CWR ⊢
      obtain ⟨SB, hSB⟩ : ∃ s, bytesC c = s := ⟨_, rfl⟩
      rw [hSB] at CB CWR
      unfold strV at CB CWR
      have CS := Lib.hid fun W => rsound_any W c
      obtain ⟨sb, hsb⟩ : ∃ sb, soundB c = sb := ⟨_, rfl⟩
      rw [hsb] at CS ⊢
      have cv := A0.out.cell 7
      unfold Cp.cells at cv
      simp only [List.getElem?_toArray, List.getElem?_cons_zero, List.getElem?_cons_succ] at cv
      obtain ⟨v, hv⟩ : ∃ v, c.v = v := ⟨_, rfl⟩
      rw [hv] at cv ⊢
      have u1 : (a : Int).tdiv 16 = ((a / 16 : Nat) : Int) := by rw [Int.tdiv_eq_ediv_of_nonneg (by omega)]; omega
      have u2 : (a : Int) / 16 = ((a / 16 : Nat) : Int) := by omega
      have u3 : IntKind.u32.wrap ((a / 16 : Nat) : Int) = ((a / 16 : Nat) : Int) := i32w _ (by omega)
      have u4 : IntKind.i64.wrap ((a / 16 : Nat) : Int) = ((a / 16 : Nat) : Int) := i64w _ (by omega)
      obtain ⟨A, hA⟩ : ∃ A, a / 16 = A := ⟨_, rfl⟩
      rw [hA] at u1 u2 u3 u4
      have hAl : A < bs.length / 16 := by omega
      rw [← hll] at hAl
      have hAm : (A : Int) < ((bs.length / 16 : Nat) : Int) := by omega
      rw [hA]
      have HHL := Lib.hid hll
      have hql := A0.out.lt
      have CV := Lib.hid cv
      clear h hwh hL hF hbl h16 hBL hFF hSB hsb hv cv hA hm hll
      go_enter Try.func17, Try.ntmps17
      go_wp2_with fail
      rw [HW1.out]
      refine (CT.out).mono ?_
      rintro e w' ⟨rfl, rfl⟩
      go_wp2_with (refine wpList_load_all (by rfl) 38 (.tmp 5) rfl w.heap.size rfl 38 c.cells _ A0.out Try.underlying38 rfl HI.out ?_)
      refine (CB.out).mono ?_
      rintro e w2 ⟨rfl, hf2⟩
      have F2 := Lib.hid hf2
      clear hf2
      go_wp2_with fail
      refine (CWR.out _ F2.out).mono ?_
      rintro e w3 ⟨rfl, hr3, hf3⟩
      have R3 := Lib.hid hr3
      have F3 := Lib.hid ((((F0.out.trans0 F2.out).more (T := [bb, tb]) (by simp))).trans hf3 (fun k hk => .inl hk))
      have hne3 : w.heap.size ≠ bb ∧ w.heap.size ≠ tb := by omega
      have A3 := Lib.hid ((A0.out.fr F2.out (by simp)).fr hf3 (by simp; omega))
      have c1 := hr3.c1
      rw [HHL.out] at c1
      have C1 := Lib.hid fun W (hW : Fr [] w3 W) => (hW.cell (a := ⟨r, 1, none⟩) hr3.lt.1 (by simp)).trans c1
      have CTG := Lib.hid fun W (hW : Fr [] w3 W) => (hW.cell (a := ⟨tb, A, none⟩) hr3.lt.2.2 (by simp)).trans (hr3.tag A hAl)
      have ZTG := Lib.hid fun W (hW : Fr [] w3 W) => (hW.froz (a := ⟨tb, A, none⟩) hr3.lt.2.2 (by simp)).trans (hr3.tfroz A)
      have CV3 := Lib.hid fun W (hW : Fr [] w3 W) => (hW.cell (a := ⟨w.heap.size, 7, none⟩) A3.out.lt (by simp)).trans (((hf3.cell (a := ⟨w.heap.size, 7, none⟩) (Nat.lt_of_lt_of_le hql F2.out.size) (by simp; omega)).trans ((F2.out.cell (a := ⟨w.heap.size, 7, none⟩) hql (by simp)).trans CV.out)))
      obtain ⟨M, hM⟩ : ∃ M, bs.length / 16 = M := ⟨_, rfl⟩
      rw [hM] at C1 hAm
      clear hr3 hf3 c1 hne3 CV CWR CB CT hAl hrl hM
      go_wp2_with fail
      refine wp_region_L (fun W => Fr [] w3 W) [13] (by kernel_rfl) ((Fr.refl _ _).drew) (fun hHeld => ?_)
      refine wpAnyL_take (i := 0) (v := ?_) rfl (by kernel_rfl) (fun _ _ _ h => h) (Or.inl ⟨by rfl, ?_⟩) (by assumption) ?_; rotate_left; (focus (intro w hSw; skip; go_simp; (try with_reducible rfl))); (try (refine wpAnyL_norm (by simp only [Act.put, List.setIfInBounds_toArray, List.set_cons_zero, List.set_cons_succ]; rfl) ?_))
      refine wpAnyL_take (i := 1) (v := ?_) rfl (by kernel_rfl) (fun _ _ _ h => h) (Or.inl ⟨by rfl, ?_⟩) (by assumption) ?_; rotate_left; (focus (intro w hSw; skip; go_simp; (try with_reducible rfl))); (try (refine wpAnyL_norm (by simp only [Act.put, List.setIfInBounds_toArray, List.set_cons_zero, List.set_cons_succ]; rfl) ?_))
      refine wpAnyL_take (i := 2) (v := ?_) rfl (by kernel_rfl) (fun _ _ _ h => h) (Or.inl ⟨by rfl, ?_⟩) (by assumption) ?_; rotate_left; (focus (intro w hSw; skip; go_simp; (try with_reducible rfl))); (try (refine wpAnyL_norm (by simp only [Act.put, List.setIfInBounds_toArray, List.set_cons_zero, List.set_cons_succ]; rfl) ?_))
      refine wpAnyL_take (i := 3) (v := ?_) rfl (by kernel_rfl) (fun _ _ _ h => h) (Or.inl ⟨by rfl, ?_⟩) (by assumption) ?_; rotate_left; (focus (intro w hSw; (have cc := C1.out _ hSw); go_simp; (try with_reducible rfl))); (try (refine wpAnyL_norm (by simp only [Act.put, List.setIfInBounds_toArray, List.set_cons_zero, List.set_cons_succ]; rfl) ?_))
      refine wpAnyL_take (i := 4) (v := ?_) rfl (by kernel_rfl) (fun _ _ _ h => h) (Or.inl ⟨by rfl, ?_⟩) (by assumption) ?_; rotate_left; (focus (intro w hSw; skip; go_simp; (try with_reducible rfl))); (try (refine wpAnyL_norm (by simp only [Act.put, List.setIfInBounds_toArray, List.set_cons_zero, List.set_cons_succ]; rfl) ?_))
      refine wpAnyL_take (i := 5) (v := ?_) rfl (by kernel_rfl) (fun _ _ _ h => h) (Or.inl ⟨by rfl, ?_⟩) (by assumption) ?_; rotate_left; (focus (intro w hSw; skip; go_simp; (try with_reducible rfl))); (try (refine wpAnyL_norm (by simp only [Act.put, List.setIfInBounds_toArray, List.set_cons_zero, List.set_cons_succ]; rfl) ?_))
      refine wpAnyL_take (i := 6) (v := ?_) rfl (by kernel_rfl) (fun _ _ _ h => h) (Or.inl ⟨by rfl, ?_⟩) (by assumption) ?_; rotate_left; (focus (intro w hSw; skip; go_simp; (try with_reducible rfl))); (try (refine wpAnyL_norm (by simp only [Act.put, List.setIfInBounds_toArray, List.set_cons_zero, List.set_cons_succ]; rfl) ?_))
      refine wpAnyL_take (i := 7) (v := ?_) rfl (by kernel_rfl) (fun _ _ _ h => h) (Or.inl ⟨by rfl, ?_⟩) (by assumption) ?_; rotate_left; (focus (intro w hSw; (have cc := CV3.out _ hSw); go_simp; (try with_reducible rfl))); (try (refine wpAnyL_norm (by simp only [Act.put, List.setIfInBounds_toArray, List.set_cons_zero, List.set_cons_succ]; rfl) ?_))
      refine wpAnyL_take (i := 8) (v := ?_) rfl (by kernel_rfl) (fun _ _ _ h => h) (Or.inl ⟨by rfl, ?_⟩) (by assumption) ?_; rotate_left; (focus (intro w hSw; skip; go_simp; (try with_reducible rfl))); (try (refine wpAnyL_norm (by simp only [Act.put, List.setIfInBounds_toArray, List.set_cons_zero, List.set_cons_succ]; rfl) ?_))
      cases v with
      | false =>
        refine wpAnyL_take (i := 9) (v := undef) rfl (by kernel_rfl) (fun _ _ _ h => h) (Or.inr ⟨by rfl, rfl⟩) (by assumption) ?_; (try (refine wpAnyL_norm (by simp only [Act.put, List.setIfInBounds_toArray, List.set_cons_zero, List.set_cons_succ]; rfl) ?_))
        refine wpAnyL_take (i := 10) (v := undef) rfl (by kernel_rfl) (fun _ _ _ h => h) (Or.inr ⟨by rfl, rfl⟩) (by assumption) ?_; (try (refine wpAnyL_norm (by simp only [Act.put, List.setIfInBounds_toArray, List.set_cons_zero, List.set_cons_succ]; rfl) ?_))
        refine wpAnyL_take (i := 11) (v := ?_) rfl (by kernel_rfl) (fun _ _ _ h => h) (Or.inl ⟨by rfl, ?_⟩) (by assumption) ?_; rotate_left; (focus (intro w hSw; skip; go_simp; (try with_reducible rfl))); (try (refine wpAnyL_norm (by simp only [Act.put, List.setIfInBounds_toArray, List.set_cons_zero, List.set_cons_succ]; rfl) ?_))
        refine wpAnyL_take (i := 12) (v := ?_) rfl (by kernel_rfl) (fun _ _ _ h => h) (Or.inl ⟨by rfl, ?_⟩) (by assumption) ?_; rotate_left; (focus (intro w hSw; skip; go_simp; (try with_reducible rfl))); (try (refine wpAnyL_norm (by simp only [Act.put, List.setIfInBounds_toArray, List.set_cons_zero, List.set_cons_succ]; rfl) ?_))
        have ct5 := CTG.out _ hHeld
        have zt5 := ZTG.out _ hHeld
        refine wpAnyL_ready (rs := [13]) (by kernel_rfl) (by simp) ?_; refine AllReadyL.cons rfl (fun K hK => ?_) AllReadyL.nil
        go_simp
        refine hK.out _ _ (fun h => (h (by decide)).elim) (fun _ => ?_); clear hK K; (try (refine wpAnyL_norm (by simp only [Act.put, List.setIfInBounds_toArray, List.set_cons_zero, List.set_cons_succ]; rfl) ?_))
        refine wpAnyL_done (by kernel_rfl) ?_ _
        have F9 := Lib.hid (F3.out.trans0 hHeld)
        have R9 := Lib.hid ((R3.out.fr0 hHeld).setT A false)
        have G9 := Lib.hid (F9.out.set (a := ⟨tb, A, none⟩) (.inl (by simp)) (.bool false))
        clear hHeld
        go_wp2_with fail
        go_ret
        exact ⟨rfl, R9.out.fr0 (by first | exact Fr.refl _ _ | exact (Fr.refl _ _).drew), by first | exact G9.out | exact G9.out.drew⟩
      | true =>
        refine wpAnyL_take (i := 9) rfl (by kernel_rfl) (fun _ _ _ h => h) (yields_load_cp (.tmp 5) rfl w.heap.size rfl 38 c (fun W h => A3.out.fr h (by simp)) rfl) (by assumption) ?_; (try (refine wpAnyL_norm (by simp only [Act.put, List.setIfInBounds_toArray, List.set_cons_zero, List.set_cons_succ]; rfl) ?_))
        refine wpAnyL_ready (rs := [10]) (by kernel_rfl) (by simp) ?_; refine AllReadyL.cons rfl (fun K hK => ?_) AllReadyL.nil
        go_simp
        refine (CS.out _).mono ?_
        rintro e w4 ⟨rfl, hf4⟩
        have hh := hHeld.trans0 hf4
        refine hK.out _ _ (fun _ => hh) (fun hHeld' => ?_); have hHeld := hHeld' (by decide); clear hHeld' hK K; (try (refine wpAnyL_norm (by simp only [Act.put, List.setIfInBounds_toArray, List.set_cons_zero, List.set_cons_succ]; rfl) ?_))
        clear hh hf4
        refine wpAnyL_take (i := 11) (v := ?_) rfl (by kernel_rfl) (fun _ _ _ h => h) (Or.inl ⟨by rfl, ?_⟩) (by assumption) ?_; rotate_left; (focus (intro w hSw; skip; go_simp; (try with_reducible rfl))); (try (refine wpAnyL_norm (by simp only [Act.put, List.setIfInBounds_toArray, List.set_cons_zero, List.set_cons_succ]; rfl) ?_))
        refine wpAnyL_take (i := 12) (v := ?_) rfl (by kernel_rfl) (fun _ _ _ h => h) (Or.inl ⟨by rfl, ?_⟩) (by assumption) ?_; rotate_left; (focus (intro w hSw; skip; go_simp; (try with_reducible rfl))); (try (refine wpAnyL_norm (by simp only [Act.put, List.setIfInBounds_toArray, List.set_cons_zero, List.set_cons_succ]; rfl) ?_))
        have ct5 := CTG.out _ hHeld
        have zt5 := ZTG.out _ hHeld
        refine wpAnyL_ready (rs := [13]) (by kernel_rfl) (by simp) ?_; refine AllReadyL.cons rfl (fun K hK => ?_) AllReadyL.nil
        go_simp
        refine hK.out _ _ (fun h => (h (by decide)).elim) (fun _ => ?_); clear hK K; (try (refine wpAnyL_norm (by simp only [Act.put, List.setIfInBounds_toArray, List.set_cons_zero, List.set_cons_succ]; rfl) ?_))
        refine wpAnyL_done (by kernel_rfl) ?_ _
        have F9 := Lib.hid (F3.out.trans0 hHeld)
        have R9 := Lib.hid ((R3.out.fr0 hHeld).setT A sb)
        have G9 := Lib.hid (F9.out.set (a := ⟨tb, A, none⟩) (.inl (by simp)) (.bool sb))
        clear hHeld
        go_wp2_with fail
        go_ret
        exact ⟨rfl, R9.out.fr0 (by first | exact Fr.refl _ _ | exact (Fr.refl _ _).drew), by first | exact G9.out | exact G9.out.drew⟩
    · have hwh : whB bs.length a = false := by unfold whB; rw [decide_eq_false hfit, Bool.and_false]
      have hL : scL bs a c = bs := by unfold scL; rw [if_neg (by rw [hwh]; simp)]
      have hF : scF bs f a c = f := by unfold scF; rw [if_neg (by rw [hwh]; simp)]
      rw [hwh, hL, hF]
      rw [decide_eq_false hfit] at CT
      clear h hwh hL hF hm
      go_enter Try.func17, Try.ntmps17
      go_wp2_with fail
      rw [HW1.out]
      refine (CT.out).mono ?_
      rintro e w' ⟨rfl, rfl⟩
      go_wp2_with fail
      go_ret
      exact ⟨rfl, R0.out, F0.out.more (by simp)⟩
  · have e1 : ((a : Int) % 16 != 0) = true := by simp; omega
    have hwh : whB bs.length a = false := by unfold whB; rw [decide_eq_false hm, Bool.false_and]
    have hL : scL bs a c = bs := by unfold scL; rw [if_neg (by rw [hwh]; simp)]
    have hF : scF bs f a c = f := by unfold scF; rw [if_neg (by rw [hwh]; simp)]
    rw [hwh, hL, hF]
    clear h hwh hL hF hm CT
    go_enter Try.func17, Try.ntmps17
    go_wp2_with fail
    go_ret
    have hr := R0.out
    have hf := F0.out
    rw [← HW1.out] at hr hf
    first | exact ⟨rfl, hr, hf.more (by simp)⟩ | exact ⟨rfl, R0.out, F0.out.more (by simp)⟩
set_option maxHeartbeats 2000000 in
set_option maxRecDepth 100000 in
theorem rloadc_yes (w : World) (r bb tb cb ct : Nat) (bs : List Nat) (f : Nat → Bool) (h : Ra w r bb tb cb ct bs f) (a : Nat) (hm : a % 16 = 0) (hfit : a + 16 ≤ bs.length) :
    Calls Try.prog 50 #[.pointer (some ⟨r, 0, none⟩), .int .u32 a] w fun e w' => e = .returned (.tuple #[.agg (ofB (sub bs a 16) (f (a / 16))).cells, .bool true]) ∧ Fr [] w w' := by
  have hN := h.le
  have h16 := h.m16
  have hcap := h.cb1
  have hcap2 := h.cb2
  have ha : a < 4294967296 := by omega
  have H := Lib.hid h
  have CT := Lib.hid fun W (hW : Fr [] w W) => (show Calls Try.prog 56 #[.pointer (some ⟨r, 0, none⟩), .int .u32 a, .int .i64 16] W fun e w' => e = .returned (.bool true) ∧ W = w' from by
    have := rthere_any W r bb tb cb ct bs f (h.fr0 hW) a ha 16 (by omega) (by omega)
    rw [show (16 : Int) = ((16 : Nat) : Int) from rfl, thB_nat, decide_eq_true hfit] at this
    exact this)
  have hL : (sub bs a 16).length = 16 := by unfold sub; rw [List.length_take, List.length_drop]; omega
  have HB := Lib.hid (sub_byt bs a 16 h.byt)
  have HI := Lib.hid fun (W : World) (hW : Fr [] w W) => (show BIn W (some ⟨bb, a, none⟩) (sub bs a 16) from .inr ⟨bb, a, rfl, (h.fr0 hW).lt.2.1, fun j v hv => by
    have hj : j < 16 := by have := (List.getElem?_eq_some_iff.1 hv).1; rwa [bys_len, hL] at this
    obtain ⟨b, hb⟩ : ∃ b, bs[a + j]? = some b := ⟨_, List.getElem?_eq_getElem (by omega)⟩
    have hs : (sub bs a 16)[j]? = some b := by rw [sub_get, if_pos hj]; exact hb
    rw [bys_get _ _ _ hs] at hv
    injection hv with hv
    rw [← hv]
    exact (h.fr0 hW).byte (a + j) b hb⟩)
  have HC0 := Lib.hid fun W (hW : Fr [] w W) => (h.fr0 hW).c0
  have HC1 := Lib.hid fun W (hW : Fr [] w W) => (h.fr0 hW).c1
  have HTG := Lib.hid fun W (hW : Fr [] w W) => (h.fr0 hW).tag (a / 16) (by omega)
  have t1 : (a : Int).tmod 16 = (a : Int) % 16 := Int.tmod_eq_emod_of_nonneg (by omega)
  have e1 : ((a : Int) % 16 != 0) = false := by simp; omega
  obtain ⟨N, hNN⟩ : ∃ N, bs.length = N := ⟨_, rfl⟩
  obtain ⟨L, hLL⟩ : ∃ L, sub bs a 16 = L := ⟨_, rfl⟩
  rw [hNN] at hN hcap hfit h16 HC0 HC1
  rw [hLL] at hL HB HI ⊢
  have CO := Lib.hid fun W v => rof_any W L HB.out hL v
  unfold strV at CO
  obtain ⟨tg, htg⟩ : ∃ t, f (a / 16) = t := ⟨_, rfl⟩
  rw [htg] at HTG ⊢
  have HL := Lib.hid hL
  obtain ⟨R, hR⟩ : ∃ R, ofB L tg = R := ⟨_, rfl⟩
  have HR := Lib.hid hR
  rw [hR]
  have hwr : IntKind.u32.wrap ((a : Int) + 16) = (a : Int) + 16 := by simp [IntKind.wrap, IntKind.signed, IntKind.bits]; omega
  have HI8 := Lib.hid (show (Try.prog.info? 38).map (·.size) = some R.cells.size by kernel_rfl)
  have F0 := Lib.hid (show Fr [] w (w.alloc (.cells noC.cells 38)) from (by repeat (first | exact Fr.refl _ _ | assumption | refine Fr.trans0 ?_ (by assumption) | refine Fr.drewN ?_ _ | refine Fr.alloc ?_ _ | refine Fr.drew ?_)))
  have A0 := Lib.hid (At.new w 38 noC.cells)
  have hac : a < cb := by omega
  have u1 : (a : Int).tdiv 16 = ((a / 16 : Nat) : Int) := by rw [Int.tdiv_eq_ediv_of_nonneg (by omega)]; omega
  have u2 : (a : Int) / 16 = ((a / 16 : Nat) : Int) := by omega
  have u3 : IntKind.u32.wrap ((a / 16 : Nat) : Int) = ((a / 16 : Nat) : Int) := i32w _ (by omega)
  have u4 : IntKind.i64.wrap ((a / 16 : Nat) : Int) = ((a / 16 : Nat) : Int) := i64w _ (by omega)
  obtain ⟨A, hA⟩ : ∃ A, a / 16 = A := ⟨_, rfl⟩
  rw [hA] at u1 u2 u3 u4
  have hAm : (A : Int) < ((N / 16 : Nat) : Int) := by omega
  rw [hA] at HTG
  have HNE := Lib.hid (show w.heap.size ≠ bb ∧ w.heap.size ≠ tb ∧ w.heap.size ≠ r from by have := h.lt; omega)
  clear h hNN hLL hL htg hR hA hm h16
  obtain ⟨M, hM⟩ : ∃ M, N / 16 = M := ⟨_, rfl⟩
  rw [hM] at HC1 hAm
  clear hM
  go_enter Try.func50, Try.ntmps50
  go_wp2_with fail
  refine (CT.out _ F0.out).mono ?_
  rintro e w' ⟨rfl, rfl⟩
  go_upto_region 3 with (fail)
  have HIS := Lib.hid fun (W : World) (hW : (∃ C : Cp, At W w.heap.size 38 C.cells) ∧ Fr [] w W) => HI.out W hW.2
  refine wp_region_L (fun W => (∃ C : Cp, At W w.heap.size 38 C.cells) ∧ Fr [] w W) [] (by kernel_rfl) ⟨⟨noC, A0.out.hp rfl⟩, F0.out.drew⟩ (fun hHeld => ?_)
  refine wpAnyL_take (i := 0) (v := ?_) rfl (by kernel_rfl) (fun _ _ _ h => h) (Or.inl ⟨by rfl, ?_⟩) (by assumption) ?_; rotate_left; (focus (intro w hSw; skip; go_simp; (try with_reducible rfl))); (try (refine wpAnyL_norm (by simp only [Act.put, List.setIfInBounds_toArray, List.set_cons_zero, List.set_cons_succ]; rfl) ?_))
  refine wpAnyL_take (i := 1) (v := ?_) rfl (by kernel_rfl) (fun _ _ _ h => h) (Or.inl ⟨by rfl, ?_⟩) (by assumption) ?_; rotate_left; (focus (intro w hSw; skip; go_simp; (try with_reducible rfl))); (try (refine wpAnyL_norm (by simp only [Act.put, List.setIfInBounds_toArray, List.set_cons_zero, List.set_cons_succ]; rfl) ?_))
  refine wpAnyL_take (i := 2) (v := ?_) rfl (by kernel_rfl) (fun _ _ _ h => h) (Or.inl ⟨by rfl, ?_⟩) (by assumption) ?_; rotate_left; (focus (intro w hSw; skip; go_simp; (try with_reducible rfl))); (try (refine wpAnyL_norm (by simp only [Act.put, List.setIfInBounds_toArray, List.set_cons_zero, List.set_cons_succ]; rfl) ?_))
  refine wpAnyL_take (i := 3) (v := ?_) rfl (by kernel_rfl) (fun _ _ _ h => h) (Or.inl ⟨by rfl, ?_⟩) (by assumption) ?_; rotate_left; (focus (intro w hSw; (have hcl := HC0.out _ hSw.2); go_simp; (try with_reducible rfl))); (try (refine wpAnyL_norm (by simp only [Act.put, List.setIfInBounds_toArray, List.set_cons_zero, List.set_cons_succ]; rfl) ?_))
  refine wpAnyL_take (i := 4) (v := ?_) rfl (by kernel_rfl) (fun _ _ _ h => h) (Or.inl ⟨by rfl, ?_⟩) (by assumption) ?_; rotate_left; (focus (intro w hSw; skip; go_simp; (try with_reducible rfl))); (try (refine wpAnyL_norm (by simp only [Act.put, List.setIfInBounds_toArray, List.set_cons_zero, List.set_cons_succ]; rfl) ?_))
  refine wpAnyL_take (i := 5) (v := ?_) rfl (by kernel_rfl) (fun _ _ _ h => h) (Or.inl ⟨by rfl, ?_⟩) (by assumption) ?_; rotate_left; (focus (intro w hSw; skip; go_simp; (try with_reducible rfl))); (try (refine wpAnyL_norm (by simp only [Act.put, List.setIfInBounds_toArray, List.set_cons_zero, List.set_cons_succ]; rfl) ?_))
  refine wpAnyL_take (i := 6) (v := ?_) rfl (by kernel_rfl) (fun _ _ _ h => h) (Or.inl ⟨by rfl, ?_⟩) (by assumption) ?_; rotate_left; (focus (intro w hSw; skip; go_simp; (try with_reducible rfl))); (try (refine wpAnyL_norm (by simp only [Act.put, List.setIfInBounds_toArray, List.set_cons_zero, List.set_cons_succ]; rfl) ?_))
  refine wpAnyL_take (i := 7) (v := ?_) rfl (by kernel_rfl) (fun _ _ _ h => h) (Or.inl ⟨by rfl, ?_⟩) (by assumption) ?_; rotate_left; (focus (intro w hSw; (have k1 : (0 : Int) ≤ (a : Int) + 16 ∧ (a : Int) + 16 ≤ (cb : Int) := by omega); (have k2 : a ≤ ((a : Int) + 16).toNat := by omega); (have k3 : ¬ cb = a := by omega); (have k4 : ((a : Int) + 16).toNat - a = 16 := by omega); go_simp; (try with_reducible rfl))); (try (refine wpAnyL_norm (by simp only [Act.put, List.setIfInBounds_toArray, List.set_cons_zero, List.set_cons_succ]; rfl) ?_))
  refine wpAnyL_take (i := 8) rfl (by kernel_rfl) (fun _ _ _ h => h) (yields_str 31 9 5 Try.underlying31 Try.underlying5 Try.underlying9 (.tmp 23) rfl (some ⟨bb, a, none⟩) 16 (cb - a) rfl L HL.out HB.out HIS.out (fun h => by cases h) rfl) (by assumption) ?_; (try (refine wpAnyL_norm (by simp only [Act.put, List.setIfInBounds_toArray, List.set_cons_zero, List.set_cons_succ]; rfl) ?_))
  refine wpAnyL_take (i := 9) (v := ?_) rfl (by kernel_rfl) (fun _ _ _ h => h) (Or.inl ⟨by rfl, ?_⟩) (by assumption) ?_; rotate_left; (focus (intro w hSw; skip; go_simp; (try with_reducible rfl))); (try (refine wpAnyL_norm (by simp only [Act.put, List.setIfInBounds_toArray, List.set_cons_zero, List.set_cons_succ]; rfl) ?_))
  refine wpAnyL_take (i := 10) (v := ?_) rfl (by kernel_rfl) (fun _ _ _ h => h) (Or.inl ⟨by rfl, ?_⟩) (by assumption) ?_; rotate_left; (focus (intro w hSw; skip; go_simp; (try with_reducible rfl))); (try (refine wpAnyL_norm (by simp only [Act.put, List.setIfInBounds_toArray, List.set_cons_zero, List.set_cons_succ]; rfl) ?_))
  refine wpAnyL_take (i := 11) (v := ?_) rfl (by kernel_rfl) (fun _ _ _ h => h) (Or.inl ⟨by rfl, ?_⟩) (by assumption) ?_; rotate_left; (focus (intro w hSw; skip; go_simp; (try with_reducible rfl))); (try (refine wpAnyL_norm (by simp only [Act.put, List.setIfInBounds_toArray, List.set_cons_zero, List.set_cons_succ]; rfl) ?_))
  refine wpAnyL_take (i := 12) (v := ?_) rfl (by kernel_rfl) (fun _ _ _ h => h) (Or.inl ⟨by rfl, ?_⟩) (by assumption) ?_; rotate_left; (focus (intro w hSw; (have hcl := HC1.out _ hSw.2); go_simp; (try with_reducible rfl))); (try (refine wpAnyL_norm (by simp only [Act.put, List.setIfInBounds_toArray, List.set_cons_zero, List.set_cons_succ]; rfl) ?_))
  refine wpAnyL_take (i := 13) (v := ?_) rfl (by kernel_rfl) (fun _ _ _ h => h) (Or.inl ⟨by rfl, ?_⟩) (by assumption) ?_; rotate_left; (focus (intro w hSw; skip; go_simp; (try with_reducible rfl))); (try (refine wpAnyL_norm (by simp only [Act.put, List.setIfInBounds_toArray, List.set_cons_zero, List.set_cons_succ]; rfl) ?_))
  refine wpAnyL_take (i := 14) (v := ?_) rfl (by kernel_rfl) (fun _ _ _ h => h) (Or.inl ⟨by rfl, ?_⟩) (by assumption) ?_; rotate_left; (focus (intro w hSw; skip; go_simp; (try with_reducible rfl))); (try (refine wpAnyL_norm (by simp only [Act.put, List.setIfInBounds_toArray, List.set_cons_zero, List.set_cons_succ]; rfl) ?_))
  refine wpAnyL_take (i := 15) (v := ?_) rfl (by kernel_rfl) (fun _ _ _ h => h) (Or.inl ⟨by rfl, ?_⟩) (by assumption) ?_; rotate_left; (focus (intro w hSw; skip; go_simp; (try with_reducible rfl))); (try (refine wpAnyL_norm (by simp only [Act.put, List.setIfInBounds_toArray, List.set_cons_zero, List.set_cons_succ]; rfl) ?_))
  refine wpAnyL_take (i := 16) (v := ?_) rfl (by kernel_rfl) (fun _ _ _ h => h) (Or.inl ⟨by rfl, ?_⟩) (by assumption) ?_; rotate_left; (focus (intro w hSw; (have hcl := HTG.out _ hSw.2); go_simp; (try with_reducible rfl))); (try (refine wpAnyL_norm (by simp only [Act.put, List.setIfInBounds_toArray, List.set_cons_zero, List.set_cons_succ]; rfl) ?_))
  refine wpAnyL_ready (rs := [17]) (by kernel_rfl) (by simp) ?_; refine AllReadyL.cons rfl (fun K hK => ?_) AllReadyL.nil
  go_simp
  refine (CO.out _ _).mono ?_
  rintro e w3 ⟨rfl, hf3⟩
  rw [HR.out]
  refine hK.out _ _ (fun _ => ⟨hHeld.1.imp fun C h => h.fr hf3 (by simp), hHeld.2.trans0 hf3⟩) (fun hHeld' => ?_); have hHeld := hHeld' (by decide); clear hHeld' hK K; (try (refine wpAnyL_norm (by simp only [Act.put, List.setIfInBounds_toArray, List.set_cons_zero, List.set_cons_succ]; rfl) ?_))
  refine wpAnyL_take (i := 18) (v := ?_) rfl (by kernel_rfl) (fun _ _ _ h => h) (Or.inl ⟨by rfl, ?_⟩) (by assumption) ?_; rotate_left; (focus (intro w hSw; skip; go_simp; (try with_reducible rfl))); (try (refine wpAnyL_norm (by simp only [Act.put, List.setIfInBounds_toArray, List.set_cons_zero, List.set_cons_succ]; rfl) ?_))
  refine wpAnyL_take (i := 19) (v := ?_) rfl (by kernel_rfl) (fun _ _ _ h => h) (Or.inl ⟨by rfl, ?_⟩) (by assumption) ?_; rotate_left; (focus (intro w hSw; skip; go_simp; (try with_reducible rfl))); (try (refine wpAnyL_norm (by simp only [Act.put, List.setIfInBounds_toArray, List.set_cons_zero, List.set_cons_succ]; rfl) ?_))
  refine wpAnyL_ready (rs := [20]) (by kernel_rfl) (by simp) ?_; refine AllReadyL.cons rfl (fun K hK => ?_) AllReadyL.nil
  rw [if_pos (by rfl)]
  obtain ⟨C, hC⟩ := hHeld.1
  refine wp_store_z 38 (.tmp 4) (.tmp 34) rfl _ R.cells rfl rfl 38 C.cells hC HI8.out rfl (cellz_all R) ?_
  intro w4 hA4 hF4
  refine hK.out _ _ (fun _ => ⟨⟨R, hA4⟩, hHeld.2.trans hF4 (by simp)⟩) (fun hHeld' => ?_); have hHeld := hHeld' (by decide); clear hHeld' hK K; (try (refine wpAnyL_norm (by simp only [Act.put, List.setIfInBounds_toArray, List.set_cons_zero, List.set_cons_succ]; rfl) ?_))
  refine wpAnyL_take (i := 21) (v := ?_) rfl (by kernel_rfl) (fun _ _ _ h => h) (Or.inl ⟨by rfl, ?_⟩) (by assumption) ?_; rotate_left; (focus (intro w hSw; skip; go_simp; (try with_reducible rfl))); (try (refine wpAnyL_norm (by simp only [Act.put, List.setIfInBounds_toArray, List.set_cons_zero, List.set_cons_succ]; rfl) ?_))
  refine wpAnyL_done (by kernel_rfl) ?_ _
  go_wp2_with fail
  exact bodyPost_ret (res_row_tmp rfl _ _ w.heap.size 38 R.cells _ rfl hA4 Try.underlying38 rfl HI8.out) rfl ⟨rfl, hHeld.2⟩
set_option maxRecDepth 100000 in
theorem rloadc_no (w : World) (r bb tb cb ct : Nat) (bs : List Nat) (f : Nat → Bool) (h : Ra w r bb tb cb ct bs f) (a : Nat) (ha : a < 4294967296) (hw : whB bs.length a = false) :
    Calls Try.prog 50 #[.pointer (some ⟨r, 0, none⟩), .int .u32 a] w fun e w' => e = .returned (.tuple #[.agg noC.cells, .bool false]) ∧ Fr [] w w' := by
  have F0 := Lib.hid (show Fr [] w (w.alloc (.cells noC.cells 38)) from (by repeat (first | exact Fr.refl _ _ | assumption | refine Fr.trans0 ?_ (by assumption) | refine Fr.drewN ?_ _ | refine Fr.alloc ?_ _ | refine Fr.drew ?_)))
  have CT := Lib.hid fun W (hW : Fr [] w W) => (show Calls Try.prog 56 #[.pointer (some ⟨r, 0, none⟩), .int .u32 a, .int .i64 16] W fun e w' => e = .returned (.bool (decide (a + 16 ≤ bs.length))) ∧ W = w' from by
    have := rthere_any W r bb tb cb ct bs f (h.fr0 hW) a ha 16 (by omega) (by omega)
    rw [show (16 : Int) = ((16 : Nat) : Int) from rfl, thB_nat] at this
    exact this)
  have t1 : (a : Int).tmod 16 = (a : Int) % 16 := Int.tmod_eq_emod_of_nonneg (by omega)
  have HI8 := Lib.hid (show (Try.prog.info? 38).map (·.size) = some noC.cells.size by kernel_rfl)
  unfold whB at hw
  by_cases hm : a % 16 = 0
  · have e1 : ((a : Int) % 16 != 0) = false := by simp; omega
    rw [decide_eq_true hm, Bool.true_and] at hw
    rw [hw] at CT
    clear h hm hw
    go_enter Try.func50, Try.ntmps50
    go_wp2_with fail
    refine (CT.out _ F0.out).mono ?_
    rintro e w' ⟨rfl, rfl⟩
    go_wp2_with (refine wpList_store_all (by rfl) 38 (.tmp 4) (.tmp 15) rfl w.heap.size noC.cells rfl rfl 38 noC.cells (At.nw rfl) HI8.out rfl (cellz_all noC) ?_; intro w9 hA9 hF9)
    exact bodyPost_ret (res_row_tmp rfl _ _ w.heap.size 38 noC.cells _ rfl hA9 Try.underlying38 rfl HI8.out) rfl ⟨rfl, F0.out.trans hF9 (by simp)⟩
  · have e1 : ((a : Int) % 16 != 0) = true := by simp; omega
    clear h hm hw CT
    go_enter Try.func50, Try.ntmps50
    go_wp2_with (refine wpList_store_all (by rfl) 38 (.tmp 4) (.tmp 15) rfl w.heap.size noC.cells rfl rfl 38 noC.cells (At.nw rfl) HI8.out rfl (cellz_all noC) ?_; intro w9 hA9 hF9)
    exact bodyPost_ret (res_row_tmp rfl _ _ w.heap.size 38 noC.cells _ rfl hA9 Try.underlying38 rfl HI8.out) rfl ⟨rfl, F0.out.trans hF9 (by simp)⟩
theorem rloadc_any (w : World) (r bb tb cb ct : Nat) (bs : List Nat) (f : Nat → Bool) (h : Ra w r bb tb cb ct bs f) (a : Nat) (ha : a < 4294967296) :
    Calls Try.prog 50 #[.pointer (some ⟨r, 0, none⟩), .int .u32 a] w fun e w' => e = .returned (.tuple #[.agg (ldC bs f a).cells, .bool (whB bs.length a)]) ∧ Fr [] w w' := by
  unfold ldC
  by_cases hw : whB bs.length a = true
  · rw [if_pos hw, hw]
    unfold whB at hw
    simp only [Bool.and_eq_true, decide_eq_true_eq] at hw
    exact rloadc_yes w r bb tb cb ct bs f h a hw.1 hw.2
  · rw [if_neg hw]
    rw [Bool.not_eq_true] at hw
    rw [hw]
    exact rloadc_no w r bb tb cb ct bs f h a ha hw
set_option maxRecDepth 100000 in
theorem runtag_any (w : World) (r bb tb cb ct : Nat) (bs : List Nat) (f : Nat → Bool) (h : Ra w r bb tb cb ct bs f) (a : Nat) (ha : a < 4294967296) :
    Calls Try.prog 47 #[.pointer (some ⟨r, 0, none⟩), .int .u32 a] w fun e w' => e = .returned (.bool (unB bs f a)) ∧ Ra w' r bb tb cb ct bs (if unB bs f a = true then upd f (a / 16) false else f) ∧ Fr [tb] w w' := by
  have hN := h.le
  have h16 := h.m16
  have H := Lib.hid h
  have c1 := h.c1
  have t1 : (a : Int).tmod 16 = (a : Int) % 16 := Int.tmod_eq_emod_of_nonneg (by omega)
  unfold unB whB
  by_cases hm : a % 16 = 0
  · have e1 : ((a : Int) % 16 != 0) = false := by simp; omega
    rw [decide_eq_true hm, Bool.true_and]
    by_cases hfit : a + 16 ≤ bs.length
    · rw [decide_eq_true hfit, Bool.true_and]
      have ct5 := h.tag (a / 16) (by omega)
      have zt5 := h.tfroz (a / 16)
      have u1 : (a : Int).tdiv 16 = ((a / 16 : Nat) : Int) := by rw [Int.tdiv_eq_ediv_of_nonneg (by omega)]; omega
      have u2 : (a : Int) / 16 = ((a / 16 : Nat) : Int) := by omega
      have u3 : IntKind.u32.wrap ((a / 16 : Nat) : Int) = ((a / 16 : Nat) : Int) := i32w _ (by omega)
      have u4 : IntKind.i64.wrap ((a / 16 : Nat) : Int) = ((a / 16 : Nat) : Int) := i64w _ (by omega)
      obtain ⟨A, hA⟩ : ∃ A, a / 16 = A := ⟨_, rfl⟩
      rw [hA] at u1 u2 u3 u4
      rw [hA] at ct5 zt5 ⊢
      have hAm : (A : Int) < ((bs.length / 16 : Nat) : Int) := by omega
      obtain ⟨M, hM⟩ : ∃ M, bs.length / 16 = M := ⟨_, rfl⟩
      rw [hM] at c1 hAm
      have hd : decide ((M : Int) ≤ (A : Int)) = false := decide_eq_false (by omega)
      obtain ⟨tg, htg⟩ : ∃ t, f A = t := ⟨_, rfl⟩
      rw [htg] at ct5 ⊢
      cases tg with
      | true =>
        rw [if_pos rfl]
        clear h hm hfit hA hM htg h16
        go_enter Try.func47, Try.ntmps47
        go_wp2_with fail
        go_ret
        exact ⟨rfl, H.out.setT A false, (Fr.refl _ _).set (.inl (by simp)) _⟩
      | false =>
        rw [if_neg (by simp)]
        clear h hm hfit hA hM htg h16
        go_enter Try.func47, Try.ntmps47
        go_wp2_with fail
        go_ret
        exact ⟨rfl, H.out, Fr.refl _ _⟩
    · rw [decide_eq_false hfit, Bool.false_and, if_neg (by simp)]
      have u1 : (a : Int).tdiv 16 = ((a / 16 : Nat) : Int) := by rw [Int.tdiv_eq_ediv_of_nonneg (by omega)]; omega
      have u2 : (a : Int) / 16 = ((a / 16 : Nat) : Int) := by omega
      have u3 : IntKind.u32.wrap ((a / 16 : Nat) : Int) = ((a / 16 : Nat) : Int) := i32w _ (by omega)
      have u4 : IntKind.i64.wrap ((a / 16 : Nat) : Int) = ((a / 16 : Nat) : Int) := i64w _ (by omega)
      obtain ⟨A, hA⟩ : ∃ A, a / 16 = A := ⟨_, rfl⟩
      rw [hA] at u1 u2 u3 u4
      have hAm : ((bs.length / 16 : Nat) : Int) ≤ (A : Int) := by omega
      obtain ⟨M, hM⟩ : ∃ M, bs.length / 16 = M := ⟨_, rfl⟩
      rw [hM] at c1 hAm
      have hd : decide ((M : Int) ≤ (A : Int)) = true := decide_eq_true (by omega)
      clear h hm hfit hA hM h16
      go_enter Try.func47, Try.ntmps47
      go_wp2_with fail
      go_ret
      exact ⟨rfl, H.out, Fr.refl _ _⟩
  · have e1 : ((a : Int) % 16 != 0) = true := by simp; omega
    rw [decide_eq_false hm, Bool.false_and, Bool.false_and, if_neg (by simp)]
    clear h hm h16
    go_enter Try.func47, Try.ntmps47
    go_wp2_with fail
    go_ret
    exact ⟨rfl, H.out, Fr.refl _ _⟩
end Go.Proofs.Ytilgklpponaoeaa
