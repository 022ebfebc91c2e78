/-
  What a return does. Condition: the stack holds a multiple of three.
-/



import Derived.Test.YtdfefnajhnlpdaaStack
import Derived.Test.YtdfefnajhnlpdaaFrameH
set_option linter.unusedVariables false
namespace Go.Proofs.Ytdfefnajhnlpdaa
open Go.ChangeShapes Go.WideShapes Go.ChangeAt Go.RowKit
/-- The beginning of a list. -/
theorem own_take {w : World} {b e size n m : Nat} {ad : Addr} {c : Nat} {xs : List Value} (h : w.ownsRow b e size (.slice (some ad) n c) n xs) (hm : m ≤ n) : w.ownsRow b e size (.slice (some ad) m c) m (xs.take (m * size)) := by
  obtain ⟨h1, h2 | ⟨g, cap, cur, hv, hb, hg, hc, hx, hs, ht⟩⟩ := h
  · cases h2.1
  · injection hv with e1 _ e3
    injection e1 with e1
    subst e1 e3
    have hmn : m * size ≤ n * size := Nat.mul_le_mul_right _ hm
    refine ⟨by rw [List.length_take, h1]; omega, .inr ⟨g, c, cur, rfl, hb, hg, by omega, hx, hs, ?_⟩⟩
    rw [← ht, List.take_take, Nat.min_eq_left hmn]
theorem cat_take (l : List Cp) (m : Nat) : (cat l).take (m * 8) = cat (l.take m) := by
  induction m generalizing l with
  | zero => simp [cat]
  | succ m ih =>
    cases l with
    | nil => simp [cat]
    | cons c l =>
      have := ih l
      unfold cat at this ⊢
      rw [List.take_succ_cons, List.flatMap_cons, List.flatMap_cons, ← this, show (m + 1) * 8 = c.l.length + m * 8 by rw [Cp.l_len]; omega, List.take_length_add_append]
/-- The cells of a capability of an own list. -/
theorem own_cap {w : World} {b : Nat} {g n c : Nat} {l : List Cp} (h : w.ownsRow b 25 8 (.slice (some ⟨g, 0, none⟩) n c) n (cat l)) (i : Nat) (x : Cp) (hi : l[i]? = some x) (j : Nat) (v : Value) (hv : x.l[j]? = some v) : w.cell? ⟨g, i * 8 + j, none⟩ = some v := by
  have hj : j < 8 := by have := (List.getElem?_eq_some_iff.1 hv).1; rw [Cp.l_len] at this; exact this
  obtain ⟨h1, h2 | ⟨g', cap, cur, hv', hb, hg, hc, hx, hs, ht⟩⟩ := h
  · cases h2.1
  · injection hv' with e1 _ e3
    injection e1 with e1
    injection e1 with e1
    subst e1 e3
    have hcl := cat_get l i j x hi hj
    rw [← ht] at hcl
    have hA : At w g 25 cur := hg
    rw [hA.cell]
    rw [hv, List.getElem?_take] at hcl
    split at hcl
    · simpa using hcl
    · cases hcl
set_option maxHeartbeats 4000000 in
set_option maxRecDepth 100000 in
theorem sret_none (w : World) (sp : Nat) (v : Value) (l : List Cp) (hs : St w sp v l) (hl : l.length < 3) (fr : List Cp) :
    Calls Try.prog 15 #[.pointer (some ⟨sp, 0, none⟩), .agg (cat fr).toArray] w fun r w' => r = .returned (.tuple #[.agg (cat zf).toArray, .int .i64 9]) ∧ Fr [] w w' := by
  have hz := fun w => zeroFrame w
  have hb := fun w => builtFrame w
  have ZI := Lib.hid (frInfo zf_len)
  have ZA := Lib.hid (cat_all zf)
  obtain ⟨Z, hZ⟩ : ∃ Z, (cat zf).toArray = Z := ⟨_, rfl⟩
  rw [hZ] at hz hb ZI ZA
  have HZ := Lib.hid hZ
  clear hZ
  obtain ⟨A, hA⟩ : ∃ A, (cat fr).toArray = A := ⟨_, rfl⟩
  have hS := Lib.hid hs
  have HD := Lib.hid fun W (hW : Fr [] w W) => sdepth_any (hS.out.fr0 hW)
  have h0 : l.length / 3 = 0 := by omega
  rw [h0] at HD
  rw [hA, HZ.out]
  have F0 := Lib.hid (show Fr [] w ((w.alloc (.cells A 31)).alloc (.cells Z 31)) from (by repeat (first | exact Fr.refl _ _ | assumption | refine Fr.trans0 ?_ (by assumption) | refine Fr.drewN ?_ _ | refine Fr.alloc ?_ _ | refine Fr.drew ?_)))
  clear h0 hs hA hl
  go_enter Try.func15, Try.ntmps15
  go_wp2_with fail
  refine (HD.out _ F0.out).mono ?_
  rintro e w' ⟨rfl, rfl⟩
  go_wp2_with (refine wpList_store_all rfl 31 (.tmp 4) (.tmp 14) rfl _ Z rfl rfl 31 Z (At.newq (by simp only [World.size_alloc])) ZI.out rfl ZA.out ?_; intro w3 hA3 hF3)
  exact bodyPost_ret (res_row_tmp rfl _ _ _ 31 _ _ rfl hA3 Try.underlying31 rfl ZI.out) rfl ⟨rfl, F0.out.trans hF3 (by simp <;> omega)⟩
set_option maxHeartbeats 4000000 in
set_option maxRecDepth 100000 in
theorem sret_nil (w : World) (fr : List Cp) :
    Calls Try.prog 15 #[.pointer none, .agg (cat fr).toArray] w fun r w' => r = .returned (.tuple #[.agg (cat zf).toArray, .int .i64 9]) ∧ Fr [] w w' := by
  have hz := fun w => zeroFrame w
  have hb := fun w => builtFrame w
  have ZI := Lib.hid (frInfo zf_len)
  have ZA := Lib.hid (cat_all zf)
  obtain ⟨Z, hZ⟩ : ∃ Z, (cat zf).toArray = Z := ⟨_, rfl⟩
  rw [hZ] at hz hb ZI ZA
  have HZ := Lib.hid hZ
  clear hZ
  obtain ⟨A, hA⟩ : ∃ A, (cat fr).toArray = A := ⟨_, rfl⟩
  rw [hA, HZ.out]
  have F0 := Lib.hid (show Fr [] w ((w.alloc (.cells A 31)).alloc (.cells Z 31)) from (by repeat (first | exact Fr.refl _ _ | assumption | refine Fr.trans0 ?_ (by assumption) | refine Fr.drewN ?_ _ | refine Fr.alloc ?_ _ | refine Fr.drew ?_)))
  clear hA
  go_enter Try.func15, Try.ntmps15
  go_wp2_with fail
  refine (sdepth_nil _).mono ?_
  rintro e w' ⟨rfl, rfl⟩
  go_wp2_with (refine wpList_store_all rfl 31 (.tmp 4) (.tmp 14) rfl _ Z rfl rfl 31 Z (At.newq (by simp only [World.size_alloc])) ZI.out rfl ZA.out ?_; intro w3 hA3 hF3)
  exact bodyPost_ret (res_row_tmp rfl _ _ _ 31 _ _ rfl hA3 Try.underlying31 rfl ZI.out) rfl ⟨rfl, F0.out.trans hF3 (by simp <;> omega)⟩
set_option maxHeartbeats 4000000 in
set_option maxRecDepth 100000 in
theorem sret_ok (w : World) (sp : Nat) (v : Value) (l : List Cp) (hs : St w sp v l) (d : Nat) (hd : l.length = 3 * (d + 1)) (hd2 : d ≤ 100) (e0 e1 e2 : Cp) (h0 : l[3 * d]? = some e0) (h1 : l[3 * d + 1]? = some e1) (h2 : l[3 * d + 2]? = some e2) (fr : List Cp) (hfr : fr.length = 17) :
    Calls Try.prog 15 #[.pointer (some ⟨sp, 0, none⟩), .agg (cat fr).toArray] w fun r w' => ∃ v', r = .returned (.tuple #[.agg (cat ((((passF fr).set 16 e0).set 14 e1).set 15 e2)).toArray, .int .i64 0]) ∧ St w' sp v' (l.take (3 * d)) ∧ Fr [sp] w w' ∧ v'.ownBlock = v.ownBlock := by
  have hz := fun w => zeroFrame w
  have hb := fun w => builtFrame w
  have ZI := Lib.hid (frInfo zf_len)
  have ZA := Lib.hid (cat_all zf)
  obtain ⟨Z, hZ⟩ : ∃ Z, (cat zf).toArray = Z := ⟨_, rfl⟩
  rw [hZ] at hz hb ZI ZA
  have HZ := Lib.hid hZ
  clear hZ
  obtain ⟨g, vc, cur, rfl, -, -, hvc, hvm, -⟩ := hs.2.2.resolve_left (by rintro ⟨-, h⟩; omega)
  have hS := Lib.hid hs
  have HD := Lib.hid fun W (hW : Fr [] w W) => sdepth_any (hS.out.fr0 hW)
  have hO := hs.2
  have hq : l.length / 3 = d + 1 := by omega
  rw [hq] at HD
  rw [hd] at hO hvc
  have hsp := hs.1
  rw [hd] at hsp
  unfold maxLen at hvm
  have HO := Lib.hid hO
  have HSP := Lib.hid hsp
  have H0 := Lib.hid h0
  have H1 := Lib.hid h1
  have H2 := Lib.hid h2
  have HFR := Lib.hid hfr
  have HLD := Lib.hid hd
  obtain ⟨A, hA⟩ : ∃ A, (cat fr).toArray = A := ⟨_, rfl⟩
  have HA := Lib.hid hA
  rw [hA]
  obtain ⟨X, hX⟩ : ∃ X, (w.alloc (.cells A 31)).alloc (.cells Z 31) = X := ⟨_, rfl⟩
  have B0 := Lib.hid (show At X w.heap.size 31 (cat fr).toArray by rw [← hX, hA]; exact (At.new _ _ _).old _)
  have B1 := Lib.hid (show At X (w.heap.size + 1) 31 Z by rw [← hX]; exact At.newq (by simp only [World.size_alloc]))
  have FX := Lib.hid (show Fr [] w X by rw [← hX]; exact (by repeat (first | exact Fr.refl _ _ | assumption | refine Fr.trans0 ?_ (by assumption) | refine Fr.drewN ?_ _ | refine Fr.alloc ?_ _ | refine Fr.drew ?_)))
  have HX := Lib.hid hX
  have hspl := hs.1.lt
  have hgl := (hs.2.lt g rfl).2
  clear hd hs hA hX hO hsp h0 h1 h2 hfr hq
  go_enter Try.func15, Try.ntmps15
  go_wp2_with fail
  rw [HX.out]
  refine (HD.out _ FX.out).mono ?_
  rintro e w' ⟨rfl, rfl⟩
  have s0 := (HSP.out.fr FX.out (by simp)).cell 0
  simp only [List.getElem?_toArray, List.getElem?_cons_zero] at s0
  have HI := Lib.hid (frInfo HFR.out)
  go_wp2_with (refine wpList_load_all rfl 31 (.tmp 3) rfl w.heap.size rfl 31 (cat fr).toArray _ B0.out Try.underlying31 rfl HI.out ?_)
  have q1 : (d + 1) * 3 - 3 = 3 * d := by omega
  have q2 : 3 * (d + 1) - 3 * d = 3 := by omega
  have q3 : ((d : Int) + 1) * 3 - 3 = ((3 * d : Nat) : Int) := by omega
  rw [q1, q2, q3]
  have N6 := At.new X 3 #[.int .i64 10, .int .i64 11]
  have F6 : Fr [] X (X.alloc (.cells #[.int .i64 10, .int .i64 11] 3)) := (by repeat (first | exact Fr.refl _ _ | assumption | refine Fr.trans0 ?_ (by assumption) | refine Fr.drewN ?_ _ | refine Fr.alloc ?_ _ | refine Fr.drew ?_))
  refine (cpass_any _ fr HFR.out _ 2 N6).mono ?_
  rintro e w7 ⟨rfl, hf7⟩
  have F7 : Fr [] X w7 := F6.trans0 hf7
  have HPL : (passF fr).length = 17 := by unfold passF; rw [List.length_set, List.length_set, zf_len]
  have HPI := Lib.hid (frInfo HPL)
  have E1 := Lib.hid (B1.out.fr F7 (by simp))
  have EO := Lib.hid (own_fr0 HO.out (FX.out.trans0 F7))
  have ES := Lib.hid (HSP.out.fr (FX.out.trans0 F7) (by simp))
  have EF := Lib.hid (FX.out.trans0 F7)
  have hs7 : w.heap.size + 1 < w7.heap.size := E1.out.lt
  have ZP := Lib.hid (show Z.size = (cat (passF fr)).toArray.size by rw [← HZ.out, cat_size HPL, cat_size zf_len])
  have HPA := Lib.hid (cat_all (passF fr))
  obtain ⟨G, hG⟩ : ∃ G, passF fr = G := ⟨_, rfl⟩
  rw [hG] at HPL HPI ZP HPA ⊢
  have HG := Lib.hid hG
  have HGL := Lib.hid HPL
  clear N6 F6 hf7 F7 B0 B1 FX hG HPL q1 q2 q3 HX s0
  go_wp2_with (refine wpList_store_all rfl 31 (.tmp 8) (.tmp 24) rfl _ (cat G).toArray rfl rfl 31 Z (At.newq rfl) HPI.out ZP.out HPA.out ?_; intro w8 hA8 hF8)
  have hga : Fr [] w7 (w7.alloc (.cells Z 31)) := (by repeat (first | exact Fr.refl _ _ | assumption | refine Fr.trans0 ?_ (by assumption) | refine Fr.drewN ?_ _ | refine Fr.alloc ?_ _ | refine Fr.drew ?_))
  obtain ⟨B, hB⟩ : ∃ B, w7.heap.size = B := ⟨_, rfl⟩
  rw [hB] at hA8 hF8 hs7 ⊢
  have hgB : ∀ g', (Value.slice (some ⟨g, 0, none⟩) (3 * (d + 1)) vc).ownBlock = some g' → g' ∉ [B] := fun g' hg => by simp [Value.ownBlock] at hg; subst hg; simp; omega
  have IO := Lib.hid (own_fr (own_fr0 EO.out hga) hF8 hgB)
  have I1 := Lib.hid ((E1.out.fr hga (by simp)).fr hF8 (by simp <;> omega))
  have IS := Lib.hid ((ES.out.fr hga (by simp)).fr hF8 (by simp <;> omega))
  have IF := Lib.hid ((EF.out.trans0 hga).trans hF8 (by simp <;> omega))
  have HA8 := Lib.hid hA8
  clear hA8 hF8 hga EO E1 ES EF hB
  refine wp_region_L (fun W => W.ownsRow 0 25 8 (.slice (some ⟨g, 0, none⟩) (3 * (d + 1)) vc) (3 * (d + 1)) (cat l)) [] (by kernel_rfl) IO.out (fun hHeld => ?_)
  (try (refine wpAnyL_norm (by simp only [Act.put, List.setIfInBounds_toArray, List.set_cons_zero, List.set_cons_succ]; rfl) ?_))
  refine wpAnyL_take (i := 0) (v := ?_) rfl (by kernel_rfl) (fun _ _ _ h => h) (Or.inl ⟨by rfl, ?_⟩) (by assumption) ?_; rotate_left; (focus (intro w hSw; skip; go_simp; (try with_reducible rfl))); (try (refine wpAnyL_norm (by simp only [Act.put, List.setIfInBounds_toArray, List.set_cons_zero, List.set_cons_succ]; rfl) ?_))
  refine wpAnyL_take (i := 1) (v := ?_) rfl (by kernel_rfl) (fun _ _ _ h => h) (Or.inl ⟨by rfl, ?_⟩) (by assumption) ?_; rotate_left; (focus (intro w hSw; skip; go_simp; (try with_reducible rfl))); (try (refine wpAnyL_norm (by simp only [Act.put, List.setIfInBounds_toArray, List.set_cons_zero, List.set_cons_succ]; rfl) ?_))
  refine wpAnyL_take (i := 2) rfl (by kernel_rfl) (fun _ _ _ h => h) (yields_load_at 25 (.tmp 26) rfl ⟨g, 3 * d * 8, none⟩ rfl e0.l _ (fun W h j v hv => by rw [Go.WideShapes.add_plain]; exact own_cap h (3 * d) e0 H0.out j v hv) Try.underlying25 rfl infoCapS rfl) (by assumption) ?_; (try (refine wpAnyL_norm (by simp only [Act.put, List.setIfInBounds_toArray, List.set_cons_zero, List.set_cons_succ]; rfl) ?_))
  refine wpAnyL_take (i := 3) (v := ?_) rfl (by kernel_rfl) (fun _ _ _ h => h) (Or.inl ⟨by rfl, ?_⟩) (by assumption) ?_; rotate_left; (focus (intro w hSw; skip; go_simp; (try with_reducible rfl))); (try (refine wpAnyL_norm (by simp only [Act.put, List.setIfInBounds_toArray, List.set_cons_zero, List.set_cons_succ]; rfl) ?_))
  refine wpAnyL_take (i := 4) (v := ?_) rfl (by kernel_rfl) (fun _ _ _ h => h) (Or.inl ⟨by rfl, ?_⟩) (by assumption) ?_; rotate_left; (focus (intro w hSw; skip; go_simp; (try with_reducible rfl))); (try (refine wpAnyL_norm (by simp only [Act.put, List.setIfInBounds_toArray, List.set_cons_zero, List.set_cons_succ]; rfl) ?_))
  refine wpAnyL_take (i := 5) rfl (by kernel_rfl) (fun _ _ _ h => h) (yields_load_at 25 (.tmp 29) rfl ⟨g, 3 * d * 8 + 8, none⟩ rfl e1.l _ (fun W h j v hv => by rw [Go.WideShapes.add_plain, show 3 * d * 8 + 8 + j = (3 * d + 1) * 8 + j by omega]; exact own_cap h (3 * d + 1) e1 H1.out j v hv) Try.underlying25 rfl infoCapS rfl) (by assumption) ?_; (try (refine wpAnyL_norm (by simp only [Act.put, List.setIfInBounds_toArray, List.set_cons_zero, List.set_cons_succ]; rfl) ?_))
  refine wpAnyL_take (i := 6) (v := ?_) rfl (by kernel_rfl) (fun _ _ _ h => h) (Or.inl ⟨by rfl, ?_⟩) (by assumption) ?_; rotate_left; (focus (intro w hSw; skip; go_simp; (try with_reducible rfl))); (try (refine wpAnyL_norm (by simp only [Act.put, List.setIfInBounds_toArray, List.set_cons_zero, List.set_cons_succ]; rfl) ?_))
  refine wpAnyL_take (i := 7) (v := ?_) rfl (by kernel_rfl) (fun _ _ _ h => h) (Or.inl ⟨by rfl, ?_⟩) (by assumption) ?_; rotate_left; (focus (intro w hSw; skip; go_simp; (try with_reducible rfl))); (try (refine wpAnyL_norm (by simp only [Act.put, List.setIfInBounds_toArray, List.set_cons_zero, List.set_cons_succ]; rfl) ?_))
  refine wpAnyL_take (i := 8) rfl (by kernel_rfl) (fun _ _ _ h => h) (yields_load_at 25 (.tmp 32) rfl ⟨g, 3 * d * 8 + 16, none⟩ rfl e2.l _ (fun W h j v hv => by rw [Go.WideShapes.add_plain, show 3 * d * 8 + 16 + j = (3 * d + 2) * 8 + j by omega]; exact own_cap h (3 * d + 2) e2 H2.out j v hv) Try.underlying25 rfl infoCapS rfl) (by assumption) ?_; (try (refine wpAnyL_norm (by simp only [Act.put, List.setIfInBounds_toArray, List.set_cons_zero, List.set_cons_succ]; rfl) ?_))
  refine wpAnyL_take (i := 9) (v := ?_) rfl (by kernel_rfl) (fun _ _ _ h => h) (Or.inl ⟨by rfl, ?_⟩) (by assumption) ?_; rotate_left; (focus (intro w hSw; skip; go_simp; (try with_reducible rfl))); (try (refine wpAnyL_norm (by simp only [Act.put, List.setIfInBounds_toArray, List.set_cons_zero, List.set_cons_succ]; rfl) ?_))
  refine wpAnyL_take (i := 11) (v := ?_) rfl (by kernel_rfl) (fun _ _ _ h => h) (Or.inl ⟨by rfl, ?_⟩) (by assumption) ?_; rotate_left; (focus (intro w hSw; skip; go_simp; (try with_reducible rfl))); (try (refine wpAnyL_norm (by simp only [Act.put, List.setIfInBounds_toArray, List.set_cons_zero, List.set_cons_succ]; rfl) ?_))
  refine wpAnyL_take (i := 14) (v := ?_) rfl (by kernel_rfl) (fun _ _ _ h => h) (Or.inl ⟨by rfl, ?_⟩) (by assumption) ?_; rotate_left; (focus (intro w hSw; skip; go_simp; (try with_reducible rfl))); (try (refine wpAnyL_norm (by simp only [Act.put, List.setIfInBounds_toArray, List.set_cons_zero, List.set_cons_succ]; rfl) ?_))
  refine wpAnyL_ready (rs := [10]) (by kernel_rfl) (by simp) ?_; refine AllReadyL.cons rfl (fun K hK => ?_) AllReadyL.nil
  rw [if_pos (by rfl)]
  refine wp_store_cap (.tmp 34) (.tmp 27) rfl B 128 e0 rfl rfl 31 G (HA8.out.drewN 1) 16 rfl (by rw [HGL.out]; omega) ?_
  intro w11 hA11 hF11
  refine hK.out _ _ (fun _ => own_fr hHeld hF11 hgB) (fun hHeld' => ?_); have hHeld := hHeld' (by decide); clear hHeld' hK K; (try (refine wpAnyL_norm (by simp only [Act.put, List.setIfInBounds_toArray, List.set_cons_zero, List.set_cons_succ]; rfl) ?_))
  refine wpAnyL_take (i := 12) (v := ?_) rfl (by kernel_rfl) (fun _ _ _ h => h) (Or.inl ⟨by rfl, ?_⟩) (by assumption) ?_; rotate_left; (focus (intro w hSw; skip; go_simp; (try with_reducible rfl))); (try (refine wpAnyL_norm (by simp only [Act.put, List.setIfInBounds_toArray, List.set_cons_zero, List.set_cons_succ]; rfl) ?_))
  refine wpAnyL_ready (rs := [13]) (by kernel_rfl) (by simp) ?_; refine AllReadyL.cons rfl (fun K hK => ?_) AllReadyL.nil
  rw [if_pos (by rfl)]
  refine wp_store_cap (.tmp 36) (.tmp 30) rfl B 112 e1 rfl rfl 31 _ hA11 14 rfl (by rw [List.length_set, HGL.out]; omega) ?_
  intro w13 hA13 hF13
  refine hK.out _ _ (fun _ => own_fr hHeld hF13 hgB) (fun hHeld' => ?_); have hHeld := hHeld' (by decide); clear hHeld' hK K; (try (refine wpAnyL_norm (by simp only [Act.put, List.setIfInBounds_toArray, List.set_cons_zero, List.set_cons_succ]; rfl) ?_))
  refine wpAnyL_take (i := 15) (v := ?_) rfl (by kernel_rfl) (fun _ _ _ h => h) (Or.inl ⟨by rfl, ?_⟩) (by assumption) ?_; rotate_left; (focus (intro w hSw; skip; go_simp; (try with_reducible rfl))); (try (refine wpAnyL_norm (by simp only [Act.put, List.setIfInBounds_toArray, List.set_cons_zero, List.set_cons_succ]; rfl) ?_))
  refine wpAnyL_ready (rs := [16]) (by kernel_rfl) (by simp) ?_; refine AllReadyL.cons rfl (fun K hK => ?_) AllReadyL.nil
  rw [if_pos (by rfl)]
  refine wp_store_cap (.tmp 38) (.tmp 33) rfl B 120 e2 rfl rfl 31 _ hA13 15 rfl (by rw [List.length_set, List.length_set, HGL.out]; omega) ?_
  intro w16 hA16 hF16
  refine hK.out _ _ (fun _ => own_fr hHeld hF16 hgB) (fun hHeld' => ?_); have hHeld := hHeld' (by decide); clear hHeld' hK K; (try (refine wpAnyL_norm (by simp only [Act.put, List.setIfInBounds_toArray, List.set_cons_zero, List.set_cons_succ]; rfl) ?_))
  refine wpAnyL_done (by kernel_rfl) ?_ _
  have hf : Fr [B] w8 w16 := Fr.hd (((hF11.trans hF13 (fun k hk => .inl hk)).trans hF16 (fun k hk => .inl hk))) rfl rfl rfl rfl
  have K8 := Lib.hid hA16
  have K1 := Lib.hid (I1.out.fr hf (by simp <;> omega))
  have KS := Lib.hid (IS.out.fr hf (by simp <;> omega))
  have KO := Lib.hid hHeld
  have KF := Lib.hid (IF.out.trans hf (fun k hk => by simp at hk; subst hk; exact .inr (by omega)))
  have HQL : ((((G.set 16 e0).set 14 e1).set 15 e2)).length = 17 := by rw [List.length_set, List.length_set, List.length_set, HGL.out]
  have HQI := Lib.hid (frInfo HQL)
  have ZQ := Lib.hid (show Z.size = (cat (((G.set 16 e0).set 14 e1).set 15 e2)).toArray.size by rw [← HZ.out, cat_size zf_len, cat_size HQL])
  have s0 := KS.out.cell 0
  have s1 := KS.out.froz 0
  simp only [List.getElem?_toArray, List.getElem?_cons_zero] at s0
  have ht := own_take KO.out (show 3 * d ≤ 3 * (d + 1) by omega)
  rw [cat_take] at ht
  have hln : (l.take (3 * d)).length = 3 * d := by rw [List.length_take, HLD.out]; omega
  have HT := Lib.hid ht
  have HLN := Lib.hid hln
  clear hA11 hF11 hA13 hF13 hA16 hF16 hHeld hf HQL I1 IS IO IF HA8 ht hln
  go_upto_region 8 with (fail)
  have q1 : (d + 1) * 3 - 3 = 3 * d := by omega
  rw [q1]
  have hfs : Fr [sp] w16 (w16.setCell ⟨sp, 0, none⟩ (.slice (some ⟨g, 0, none⟩) (3 * d) vc)) := (Fr.refl _ _).set (.inl (by simp)) _
  have hgs : g ≠ sp := own_ne KO.out KS.out (by decide) g rfl
  have L8 := Lib.hid (K8.out.fr hfs (by simp <;> omega))
  have L1 := Lib.hid (K1.out.fr hfs (by simp <;> omega))
  have LS : St (w16.setCell ⟨sp, 0, none⟩ (.slice (some ⟨g, 0, none⟩) (3 * d) vc)) sp (.slice (some ⟨g, 0, none⟩) (3 * d) vc) (l.take (3 * d)) :=
    ⟨KS.out.set 0 _, by rw [HLN.out]; exact own_fr HT.out hfs (fun g' hg => by simp [Value.ownBlock] at hg; subst hg; simpa using hgs)⟩
  have LF := Lib.hid ((KF.out.more (T := [sp]) (by simp)).trans hfs (fun k hk => .inl hk))
  have HLS := Lib.hid LS
  obtain ⟨w17, hw17⟩ : ∃ W, w16.setCell ⟨sp, 0, none⟩ (.slice (some ⟨g, 0, none⟩) (3 * d) vc) = W := ⟨_, rfl⟩
  rw [hw17] at L8 L1 HLS LF ⊢
  clear hw17 LS hfs KO KS K8 K1 KF q1 s0 s1
  go_wp2_with (first | (refine wpList_load_all rfl 31 (.tmp 8) rfl B rfl 31 _ _ L8.out Try.underlying31 rfl HQI.out ?_) | (refine wpList_store_all rfl 31 (.tmp 4) (.tmp 49) rfl _ _ rfl rfl 31 Z L1.out HQI.out ZQ.out (cat_all _) ?_; intro w18 hA18 hF18))
  refine bodyPost_ret (res_row_tmp rfl _ _ _ 31 _ _ rfl hA18 Try.underlying31 rfl HQI.out) rfl ⟨.slice (some ⟨g, 0, none⟩) (3 * d) vc, by rw [HG.out]; rfl, ?_, LF.out.trans hF18 (fun k hk => by simp at hk; subst hk; exact .inr (by omega)), rfl⟩
  exact HLS.out.fr hF18 (by simp <;> omega) (fun g' hg => by simp [Value.ownBlock] at hg; subst hg; simp <;> omega)
end Go.Proofs.Ytdfefnajhnlpdaa
