/-
  A step of both arenas. Condition: numbers in their types' ranges.
-/





import Derived.Test.YtilgklpponaoeaaRStore
set_option linter.unusedVariables false
namespace Go.Proofs.Ytilgklpponaoeaa
open Go.ChangeShapes Go.WideShapes Go.ChangeAt Go.RowKit
/-- An arena and the reference's: the same bytes and tags, apart in memory. -/
structure Pr (w : World) (ap p g bg cap r bb tb cb ct : Nat) (bs : List Nat) (f : Nat → Bool) : Prop where
  aa : Ar w ap p g bg cap bs f
  rr : Ra w r bb tb cb ct bs f
  d : g ≠ r ∧ bg ≠ r ∧ ap ≠ bb ∧ ap ≠ tb ∧ p ≠ bb ∧ p ≠ tb ∧ g ≠ bb ∧ g ≠ tb ∧ bg ≠ bb ∧ bg ≠ tb
theorem Pr.fr0 {w w' : World} {ap p g bg cap r bb tb cb ct : Nat} {bs : List Nat} {f : Nat → Bool} (h : Pr w ap p g bg cap r bb tb cb ct bs f) (F : Fr [] w w') : Pr w' ap p g bg cap r bb tb cb ct bs f :=
  ⟨h.aa.fr0 F, h.rr.fr0 F, h.d⟩
def dc (k : Int) (A : Nat) (wd : Int) (v : Nat) (c : Cp) (l : List Nat) : Array Value := #[.int .i64 k, .int .u32 A, .int .i64 wd, .int .u32 v, .int .u32 c.cur, .int .u8 c.e, .int .u16 c.b, .int .u16 c.t, .int .u16 c.pm, .int .u16 c.ty, .int .u32 c.rs, .bool c.v, strV l]
def kindOf (k : Int) : Int := (k.tmod 7 + 7).tmod 7
theorem kind_lt (k : Int) : 0 ≤ kindOf k ∧ kindOf k < 7 := by
  unfold kindOf
  have h1 := Int.tmod_lt_of_pos k (show (0 : Int) < 7 by omega)
  have h2 : -7 < k.tmod 7 := by
    have := Int.lt_tmod_of_pos k (show (0 : Int) < 7 by omega)
    omega
  rw [Int.tmod_eq_emod_of_nonneg (by omega)]
  omega
theorem kind_facts (k : Int) : ∃ m : Int, k.tmod 7 = m ∧ IntKind.i64.wrap m = m ∧ IntKind.i64.wrap (m + 7) = m + 7 ∧ (m + 7).tmod 7 = kindOf k ∧ IntKind.i64.wrap (kindOf k) = kindOf k := by
  have h1 := Int.tmod_lt_of_pos k (show (0 : Int) < 7 by omega)
  have h2 : -7 < k.tmod 7 := by
    have := Int.lt_tmod_of_pos k (show (0 : Int) < 7 by omega)
    omega
  have hk := kind_lt k
  have wr : ∀ x : Int, -100 < x → x < 100 → IntKind.i64.wrap x = x := fun x a b => by simp [IntKind.wrap, IntKind.signed, IntKind.bits]; omega
  exact ⟨_, rfl, wr _ (by omega) (by omega), wr _ (by omega) (by omega), rfl, wr _ (by omega) (by omega)⟩
def stepPost (w : World) (ap p g bg cap r bb tb cb ct : Nat) (N : Nat) (e : Ending) (w' : World) : Prop := ∃ bs' f', e = .returned (.bool true) ∧ Pr w' ap p g bg cap r bb tb cb ct bs' f' ∧ Fr [g, bg, bb, tb] w w' ∧ bs'.length = N
theorem dc_cap {w : World} {b : Nat} {t : TypeId} {k : Int} {A : Nat} {wd : Int} {v : Nat} {c : Cp} {l : List Nat} (h : At w b t (dc k A wd v c l)) (j : Nat) (x : Value) (hj : c.l[j]? = some x) : w.cell? ((⟨b, 4, none⟩ : Addr).add j) = some x := by
  rw [Go.WideShapes.add_plain, h.cell]
  have h8 : j < 8 := by have := (List.getElem?_eq_some_iff.1 hj).1; rw [Cp.l_len] at this; exact this
  rw [← hj]
  match j, h8 with
  | 0, _ => rfl
  | 1, _ => rfl
  | 2, _ => rfl
  | 3, _ => rfl
  | 4, _ => rfl
  | 5, _ => rfl
  | 6, _ => rfl
  | 7, _ => rfl
set_option maxHeartbeats 4000000 in
set_option maxRecDepth 100000 in
theorem step_0 (w : World) (ap p g bg cap r bb tb cb ct : Nat) (bs : List Nat) (f : Nat → Bool) (h : Pr w ap p g bg cap r bb tb cb ct bs f) (k : Int) (A : Nat) (hA : A < 4294967296) (wd : Int) (k1 : -9223372036854775808 ≤ wd) (k2 : wd ≤ 9223372036854775807) (v : Nat) (hv : v < 4294967296) (c : Cp) (hc : c.Ok) (l : List Nat) (hb : Byt l) (h0 : kindOf k = 0) :
    Calls Try.prog 13 #[.pointer (some ⟨ap, 0, none⟩), .pointer (some ⟨r, 0, none⟩), .agg (dc k A wd v c l)] w (stepPost w ap p g bg cap r bb tb cb ct bs.length) := by
  obtain ⟨b0, hb0⟩ : ∃ b, w.heap.size = b := ⟨_, rfl⟩
  obtain ⟨w1, hw1⟩ : ∃ W, w.alloc (.cells (dc k A wd v c l) 40) = W := ⟨_, rfl⟩
  have A0 := Lib.hid (show At w1 b0 40 (dc k A wd v c l) from by rw [← hw1, ← hb0]; exact At.new w _ _)
  have F0 := Lib.hid (show Fr [] w w1 from by rw [← hw1]; exact (by repeat (first | exact Fr.refl _ _ | assumption | refine Fr.trans0 ?_ (by assumption) | refine Fr.drewN ?_ _ | refine Fr.alloc ?_ _ | refine Fr.drew ?_)))
  have P0 := Lib.hid (h.fr0 F0.out)
  have HW1 := Lib.hid hw1
  have HB0 := Lib.hid hb0
  have hlt := Lib.hid (show (ap < b0 ∧ p < b0 ∧ g < b0 ∧ bg < b0) ∧ (r < b0 ∧ bb < b0 ∧ tb < b0) from by rw [← hb0]; exact ⟨h.aa.lt, h.rr.lt⟩)
  obtain ⟨m, m1, m2, m3, m4, m5⟩ := kind_facts k
  have q0 := A0.out.cell 0
  have q1 := A0.out.cell 1
  have q2 := A0.out.cell 2
  have q3 := A0.out.cell 3
  have q12 := A0.out.cell 12
  unfold dc at q0 q1 q2 q3 q12
  simp only [List.getElem?_toArray, List.getElem?_cons_zero, List.getElem?_cons_succ] at q0 q1 q2 q3 q12
  have Q1 := Lib.hid fun W (hW : Fr [g, bg, bb, tb] w1 W) => (hW.cell (a := ⟨b0, 1, none⟩) A0.out.lt (by have := hlt.out; simp; omega)).trans q1
  have Q2 := Lib.hid fun W (hW : Fr [g, bg, bb, tb] w1 W) => (hW.cell (a := ⟨b0, 2, none⟩) A0.out.lt (by have := hlt.out; simp; omega)).trans q2
  have Q3 := Lib.hid fun W (hW : Fr [g, bg, bb, tb] w1 W) => (hW.cell (a := ⟨b0, 3, none⟩) A0.out.lt (by have := hlt.out; simp; omega)).trans q3
  have Q4 := Lib.hid fun W (hW : Fr [g, bg, bb, tb] w1 W) => (show At W b0 40 (dc k A wd v c l) from A0.out.fr hW (by have := hlt.out; simp; omega))
  have D0 := Lib.hid h.d
  clear h hw1 hb0
  rw [h0] at m4
  go_enter Try.func13, Try.ntmps13
  go_upto_region 1 with (fail)
  rw [HW1.out, HB0.out]
  go_upto_region 3 with (fail)
  refine wp_region_L (fun W => Fr [g, bg, bb, tb] w1 W) [] (by kernel_rfl) (Fr.refl _ _).drew (fun hHeld => ?_)
  have P2 := Lib.hid (P0.out.fr0 (Fr.refl [] w1).drew)
  obtain ⟨w2, hw2⟩ : ∃ W, w1.drew = W := ⟨_, rfl⟩
  rw [hw2] at hHeld P2 ⊢
  clear hw2
  have CA := Lib.hid (astore_b _ _ _ _ _ _ _ _ P2.out.aa A hA wd v hv)
  obtain ⟨B, hB⟩ : ∃ B, okE bs.length A wd = B := ⟨_, rfl⟩
  rw [hB] at CA
  have HB := Lib.hid hB
  have hLn := Lib.hid (stL_len bs A wd v)
  obtain ⟨bs', hbs⟩ : ∃ x, stL bs A wd v = x := ⟨_, rfl⟩
  obtain ⟨f', hff⟩ : ∃ x, stT bs f A wd v = x := ⟨_, rfl⟩
  have HBS := Lib.hid hbs
  have HFF := Lib.hid hff
  rw [hbs] at CA hLn
  rw [hff] at CA
  clear hB hbs hff
  refine wpAnyL_take (i := 0) (v := ?_) rfl (by kernel_rfl) (fun _ _ _ h => h) (Or.inl ⟨by rfl, ?_⟩) (by assumption) ?_; rotate_left; (focus (intro w hSw; skip; go_simp; (try with_reducible rfl))); (try (refine wpAnyL_norm (by simp only [Act.put, List.setIfInBounds_toArray, List.set_cons_zero, List.set_cons_succ]; rfl) ?_))
  refine wpAnyL_take (i := 1) (v := ?_) rfl (by kernel_rfl) (fun _ _ _ h => h) (Or.inl ⟨by rfl, ?_⟩) (by assumption) ?_; rotate_left; (focus (intro w hSw; skip; go_simp; (try with_reducible rfl))); (try (refine wpAnyL_norm (by simp only [Act.put, List.setIfInBounds_toArray, List.set_cons_zero, List.set_cons_succ]; rfl) ?_))
  refine wpAnyL_take (i := 2) (v := ?_) rfl (by kernel_rfl) (fun _ _ _ h => h) (Or.inl ⟨by rfl, ?_⟩) (by assumption) ?_; rotate_left; (focus (intro w hSw; (have cc := Q1.out _ hSw); go_simp; (try with_reducible rfl))); (try (refine wpAnyL_norm (by simp only [Act.put, List.setIfInBounds_toArray, List.set_cons_zero, List.set_cons_succ]; rfl) ?_))
  refine wpAnyL_take (i := 3) (v := ?_) rfl (by kernel_rfl) (fun _ _ _ h => h) (Or.inl ⟨by rfl, ?_⟩) (by assumption) ?_; rotate_left; (focus (intro w hSw; skip; go_simp; (try with_reducible rfl))); (try (refine wpAnyL_norm (by simp only [Act.put, List.setIfInBounds_toArray, List.set_cons_zero, List.set_cons_succ]; rfl) ?_))
  refine wpAnyL_take (i := 4) (v := ?_) rfl (by kernel_rfl) (fun _ _ _ h => h) (Or.inl ⟨by rfl, ?_⟩) (by assumption) ?_; rotate_left; (focus (intro w hSw; (have cc := Q2.out _ hSw); go_simp; (try with_reducible rfl))); (try (refine wpAnyL_norm (by simp only [Act.put, List.setIfInBounds_toArray, List.set_cons_zero, List.set_cons_succ]; rfl) ?_))
  refine wpAnyL_take (i := 5) (v := ?_) rfl (by kernel_rfl) (fun _ _ _ h => h) (Or.inl ⟨by rfl, ?_⟩) (by assumption) ?_; rotate_left; (focus (intro w hSw; skip; go_simp; (try with_reducible rfl))); (try (refine wpAnyL_norm (by simp only [Act.put, List.setIfInBounds_toArray, List.set_cons_zero, List.set_cons_succ]; rfl) ?_))
  refine wpAnyL_take (i := 6) (v := ?_) rfl (by kernel_rfl) (fun _ _ _ h => h) (Or.inl ⟨by rfl, ?_⟩) (by assumption) ?_; rotate_left; (focus (intro w hSw; (have cc := Q3.out _ hSw); go_simp; (try with_reducible rfl))); (try (refine wpAnyL_norm (by simp only [Act.put, List.setIfInBounds_toArray, List.set_cons_zero, List.set_cons_succ]; rfl) ?_))
  refine wpAnyL_take (i := 8) (v := ?_) rfl (by kernel_rfl) (fun _ _ _ h => h) (Or.inl ⟨by rfl, ?_⟩) (by assumption) ?_; rotate_left; (focus (intro w hSw; skip; go_simp; (try with_reducible rfl))); (try (refine wpAnyL_norm (by simp only [Act.put, List.setIfInBounds_toArray, List.set_cons_zero, List.set_cons_succ]; rfl) ?_))
  refine wpAnyL_take (i := 9) (v := ?_) rfl (by kernel_rfl) (fun _ _ _ h => h) (Or.inl ⟨by rfl, ?_⟩) (by assumption) ?_; rotate_left; (focus (intro w hSw; skip; go_simp; (try with_reducible rfl))); (try (refine wpAnyL_norm (by simp only [Act.put, List.setIfInBounds_toArray, List.set_cons_zero, List.set_cons_succ]; rfl) ?_))
  refine wpAnyL_take (i := 10) (v := ?_) rfl (by kernel_rfl) (fun _ _ _ h => h) (Or.inl ⟨by rfl, ?_⟩) (by assumption) ?_; rotate_left; (focus (intro w hSw; (have cc := Q1.out _ hSw); go_simp; (try with_reducible rfl))); (try (refine wpAnyL_norm (by simp only [Act.put, List.setIfInBounds_toArray, List.set_cons_zero, List.set_cons_succ]; rfl) ?_))
  refine wpAnyL_take (i := 11) (v := ?_) rfl (by kernel_rfl) (fun _ _ _ h => h) (Or.inl ⟨by rfl, ?_⟩) (by assumption) ?_; rotate_left; (focus (intro w hSw; skip; go_simp; (try with_reducible rfl))); (try (refine wpAnyL_norm (by simp only [Act.put, List.setIfInBounds_toArray, List.set_cons_zero, List.set_cons_succ]; rfl) ?_))
  refine wpAnyL_take (i := 12) (v := ?_) rfl (by kernel_rfl) (fun _ _ _ h => h) (Or.inl ⟨by rfl, ?_⟩) (by assumption) ?_; rotate_left; (focus (intro w hSw; (have cc := Q2.out _ hSw); go_simp; (try with_reducible rfl))); (try (refine wpAnyL_norm (by simp only [Act.put, List.setIfInBounds_toArray, List.set_cons_zero, List.set_cons_succ]; rfl) ?_))
  refine wpAnyL_take (i := 13) (v := ?_) rfl (by kernel_rfl) (fun _ _ _ h => h) (Or.inl ⟨by rfl, ?_⟩) (by assumption) ?_; rotate_left; (focus (intro w hSw; skip; go_simp; (try with_reducible rfl))); (try (refine wpAnyL_norm (by simp only [Act.put, List.setIfInBounds_toArray, List.set_cons_zero, List.set_cons_succ]; rfl) ?_))
  refine wpAnyL_take (i := 14) (v := ?_) rfl (by kernel_rfl) (fun _ _ _ h => h) (Or.inl ⟨by rfl, ?_⟩) (by assumption) ?_; rotate_left; (focus (intro w hSw; (have cc := Q3.out _ hSw); go_simp; (try with_reducible rfl))); (try (refine wpAnyL_norm (by simp only [Act.put, List.setIfInBounds_toArray, List.set_cons_zero, List.set_cons_succ]; rfl) ?_))
  refine wpAnyL_ready (rs := [7]) (by kernel_rfl) (by simp) ?_; refine AllReadyL.cons rfl (fun K hK => ?_) AllReadyL.nil
  go_simp
  refine CA.out.mono ?_
  rintro e w3 ⟨rfl, h3, hf3⟩
  have A3 := Lib.hid h3
  have R3 := Lib.hid (P2.out.rr.fr hf3 (by have := D0.out; simp; omega) (by have := D0.out; simp; omega) (by have := D0.out; simp; omega))
  refine hK.out _ _ (fun _ => hHeld.trans hf3 (by simp)) (fun hHeld' => ?_); have hHeld := hHeld' (by decide); clear hHeld' hK K; (try (refine wpAnyL_norm (by simp only [Act.put, List.setIfInBounds_toArray, List.set_cons_zero, List.set_cons_succ]; rfl) ?_))
  clear h3 hf3 CA P2
  have CB := Lib.hid (rstore_b _ _ _ _ _ _ _ _ R3.out A hA wd v hv)
  rw [HB.out, HBS.out, HFF.out] at CB
  refine wpAnyL_ready (rs := [15]) (by kernel_rfl) (by simp) ?_; refine AllReadyL.cons rfl (fun K hK => ?_) AllReadyL.nil
  go_simp
  refine CB.out.mono ?_
  rintro e w4 ⟨rfl, h4, hf4⟩
  have P4 : Hid (Pr w4 ap p g bg cap r bb tb cb ct bs' f') := Lib.hid ⟨A3.out.fr hf4 (by have := D0.out; simp; omega) (by have := D0.out; simp; omega) (by have := D0.out; simp; omega) (by have := D0.out; simp; omega), h4, D0.out⟩
  refine hK.out _ _ (fun _ => hHeld.trans hf4 (by simp)) (fun hHeld' => ?_); have hHeld := hHeld' (by decide); clear hHeld' hK K; (try (refine wpAnyL_norm (by simp only [Act.put, List.setIfInBounds_toArray, List.set_cons_zero, List.set_cons_succ]; rfl) ?_))
  clear h4 hf4 CB A3 R3
  refine wpAnyL_take (i := 16) (v := ?_) rfl (by kernel_rfl) (fun _ _ _ h => h) (Or.inl ⟨by rfl, ?_⟩) (by assumption) ?_; rotate_left; (focus (intro w hSw; skip; go_simp; (try with_reducible rfl))); (try (refine wpAnyL_norm (by simp only [Act.put, List.setIfInBounds_toArray, List.set_cons_zero, List.set_cons_succ]; rfl) ?_))
  refine wpAnyL_take (i := 17) (v := ?_) rfl (by kernel_rfl) (fun _ _ _ h => h) (Or.inl ⟨by rfl, ?_⟩) (by assumption) ?_; rotate_left; (focus (intro w hSw; skip; go_simp; (try with_reducible rfl))); (try (refine wpAnyL_norm (by simp only [Act.put, List.setIfInBounds_toArray, List.set_cons_zero, List.set_cons_succ]; rfl) ?_))
  refine wpAnyL_done (by kernel_rfl) ?_ _
  have F4 := Lib.hid ((F0.out.more (T := [g, bg, bb, tb]) (by simp)).trans hHeld (fun k hk => .inl hk))
  clear hHeld
  go_wp2_with fail
  go_ret
  exact ⟨bs', f', rfl, P4.out, F4.out, hLn.out⟩
set_option maxHeartbeats 4000000 in
set_option maxRecDepth 100000 in
theorem step_1 (w : World) (ap p g bg cap r bb tb cb ct : Nat) (bs : List Nat) (f : Nat → Bool) (h : Pr w ap p g bg cap r bb tb cb ct bs f) (k : Int) (A : Nat) (hA : A < 4294967296) (wd : Int) (k1 : -9223372036854775808 ≤ wd) (k2 : wd ≤ 9223372036854775807) (v : Nat) (hv : v < 4294967296) (c : Cp) (hc : c.Ok) (l : List Nat) (hb : Byt l) (h0 : kindOf k = 1) :
    Calls Try.prog 13 #[.pointer (some ⟨ap, 0, none⟩), .pointer (some ⟨r, 0, none⟩), .agg (dc k A wd v c l)] w (stepPost w ap p g bg cap r bb tb cb ct bs.length) := by
  obtain ⟨b0, hb0⟩ : ∃ b, w.heap.size = b := ⟨_, rfl⟩
  obtain ⟨w1, hw1⟩ : ∃ W, w.alloc (.cells (dc k A wd v c l) 40) = W := ⟨_, rfl⟩
  have A0 := Lib.hid (show At w1 b0 40 (dc k A wd v c l) from by rw [← hw1, ← hb0]; exact At.new w _ _)
  have F0 := Lib.hid (show Fr [] w w1 from by rw [← hw1]; exact (by repeat (first | exact Fr.refl _ _ | assumption | refine Fr.trans0 ?_ (by assumption) | refine Fr.drewN ?_ _ | refine Fr.alloc ?_ _ | refine Fr.drew ?_)))
  have P0 := Lib.hid (h.fr0 F0.out)
  have HW1 := Lib.hid hw1
  have HB0 := Lib.hid hb0
  have hlt := Lib.hid (show (ap < b0 ∧ p < b0 ∧ g < b0 ∧ bg < b0) ∧ (r < b0 ∧ bb < b0 ∧ tb < b0) from by rw [← hb0]; exact ⟨h.aa.lt, h.rr.lt⟩)
  obtain ⟨m, m1, m2, m3, m4, m5⟩ := kind_facts k
  have q0 := A0.out.cell 0
  have q1 := A0.out.cell 1
  have q2 := A0.out.cell 2
  have q3 := A0.out.cell 3
  have q12 := A0.out.cell 12
  unfold dc at q0 q1 q2 q3 q12
  simp only [List.getElem?_toArray, List.getElem?_cons_zero, List.getElem?_cons_succ] at q0 q1 q2 q3 q12
  have Q1 := Lib.hid fun W (hW : Fr [g, bg, bb, tb] w1 W) => (hW.cell (a := ⟨b0, 1, none⟩) A0.out.lt (by have := hlt.out; simp; omega)).trans q1
  have Q2 := Lib.hid fun W (hW : Fr [g, bg, bb, tb] w1 W) => (hW.cell (a := ⟨b0, 2, none⟩) A0.out.lt (by have := hlt.out; simp; omega)).trans q2
  have Q3 := Lib.hid fun W (hW : Fr [g, bg, bb, tb] w1 W) => (hW.cell (a := ⟨b0, 3, none⟩) A0.out.lt (by have := hlt.out; simp; omega)).trans q3
  have Q4 := Lib.hid fun W (hW : Fr [g, bg, bb, tb] w1 W) => (show At W b0 40 (dc k A wd v c l) from A0.out.fr hW (by have := hlt.out; simp; omega))
  have D0 := Lib.hid h.d
  clear h hw1 hb0
  rw [h0] at m4 m5
  go_enter Try.func13, Try.ntmps13
  go_upto_region 1 with (fail)
  rw [HW1.out, HB0.out]
  go_upto_region 5 with (fail)
  refine wp_region_L (fun W => Fr [g, bg, bb, tb] w1 W) [] (by kernel_rfl) (Fr.refl _ _).drew (fun hHeld => ?_)
  have P2 := Lib.hid (P0.out.fr0 (Fr.refl [] w1).drew)
  obtain ⟨w2, hw2⟩ : ∃ W, w1.drew = W := ⟨_, rfl⟩
  rw [hw2] at hHeld P2 ⊢
  clear hw2
  have CA := Lib.hid (astorec_b _ _ _ _ _ _ _ _ P2.out.aa A hA c hc)
  obtain ⟨B, hB⟩ : ∃ B, whB bs.length A = B := ⟨_, rfl⟩
  rw [hB] at CA
  have HB := Lib.hid hB
  have hLn := Lib.hid (show (scL bs A c).length = bs.length from scL_len bs A c)
  obtain ⟨bs', hbs⟩ : ∃ x, scL bs A c = x := ⟨_, rfl⟩
  have HBS := Lib.hid hbs
  obtain ⟨f', hff⟩ : ∃ x, scF bs f A c = x := ⟨_, rfl⟩
  have HFF := Lib.hid hff
  rw [hbs] at CA hLn
  rw [hff] at CA
  clear hB hbs hff
  have Q5 := Lib.hid fun W (hW : Fr [g, bg, bb, tb] w1 W) => fun j v (hj : c.l[j]? = some v) => (show W.cell? ((⟨b0, 4, none⟩ : Addr).add j) = some v from dc_cap (Q4.out W hW) j v hj)
  refine wpAnyL_take (i := 0) (v := ?_) rfl (by kernel_rfl) (fun _ _ _ h => h) (Or.inl ⟨by rfl, ?_⟩) (by assumption) ?_; rotate_left; (focus (intro w hSw; skip; go_simp; (try with_reducible rfl))); (try (refine wpAnyL_norm (by simp only [Act.put, List.setIfInBounds_toArray, List.set_cons_zero, List.set_cons_succ]; rfl) ?_))
  refine wpAnyL_take (i := 1) (v := ?_) rfl (by kernel_rfl) (fun _ _ _ h => h) (Or.inl ⟨by rfl, ?_⟩) (by assumption) ?_; rotate_left; (focus (intro w hSw; skip; go_simp; (try with_reducible rfl))); (try (refine wpAnyL_norm (by simp only [Act.put, List.setIfInBounds_toArray, List.set_cons_zero, List.set_cons_succ]; rfl) ?_))
  refine wpAnyL_take (i := 2) (v := ?_) rfl (by kernel_rfl) (fun _ _ _ h => h) (Or.inl ⟨by rfl, ?_⟩) (by assumption) ?_; rotate_left; (focus (intro w hSw; (have cc := Q1.out _ hSw); go_simp; (try with_reducible rfl))); (try (refine wpAnyL_norm (by simp only [Act.put, List.setIfInBounds_toArray, List.set_cons_zero, List.set_cons_succ]; rfl) ?_))
  refine wpAnyL_take (i := 3) (v := ?_) rfl (by kernel_rfl) (fun _ _ _ h => h) (Or.inl ⟨by rfl, ?_⟩) (by assumption) ?_; rotate_left; (focus (intro w hSw; skip; go_simp; (try with_reducible rfl))); (try (refine wpAnyL_norm (by simp only [Act.put, List.setIfInBounds_toArray, List.set_cons_zero, List.set_cons_succ]; rfl) ?_))
  refine wpAnyL_take (i := 4) rfl (by kernel_rfl) (fun _ _ _ h => h) (yields_load_at 38 (.tmp 49) rfl ⟨b0, 4, none⟩ rfl c.l _ (fun W hW => Q5.out W hW) Try.underlying38 rfl infoCapS rfl) (by assumption) ?_; (try (refine wpAnyL_norm (by simp only [Act.put, List.setIfInBounds_toArray, List.set_cons_zero, List.set_cons_succ]; rfl) ?_))
  refine wpAnyL_take (i := 6) (v := ?_) rfl (by kernel_rfl) (fun _ _ _ h => h) (Or.inl ⟨by rfl, ?_⟩) (by assumption) ?_; rotate_left; (focus (intro w hSw; skip; go_simp; (try with_reducible rfl))); (try (refine wpAnyL_norm (by simp only [Act.put, List.setIfInBounds_toArray, List.set_cons_zero, List.set_cons_succ]; rfl) ?_))
  refine wpAnyL_take (i := 7) (v := ?_) rfl (by kernel_rfl) (fun _ _ _ h => h) (Or.inl ⟨by rfl, ?_⟩) (by assumption) ?_; rotate_left; (focus (intro w hSw; skip; go_simp; (try with_reducible rfl))); (try (refine wpAnyL_norm (by simp only [Act.put, List.setIfInBounds_toArray, List.set_cons_zero, List.set_cons_succ]; rfl) ?_))
  refine wpAnyL_take (i := 8) (v := ?_) rfl (by kernel_rfl) (fun _ _ _ h => h) (Or.inl ⟨by rfl, ?_⟩) (by assumption) ?_; rotate_left; (focus (intro w hSw; (have cc := Q1.out _ hSw); go_simp; (try with_reducible rfl))); (try (refine wpAnyL_norm (by simp only [Act.put, List.setIfInBounds_toArray, List.set_cons_zero, List.set_cons_succ]; rfl) ?_))
  refine wpAnyL_take (i := 9) (v := ?_) rfl (by kernel_rfl) (fun _ _ _ h => h) (Or.inl ⟨by rfl, ?_⟩) (by assumption) ?_; rotate_left; (focus (intro w hSw; skip; go_simp; (try with_reducible rfl))); (try (refine wpAnyL_norm (by simp only [Act.put, List.setIfInBounds_toArray, List.set_cons_zero, List.set_cons_succ]; rfl) ?_))
  refine wpAnyL_take (i := 10) rfl (by kernel_rfl) (fun _ _ _ h => h) (yields_load_at 38 (.tmp 55) rfl ⟨b0, 4, none⟩ rfl c.l _ (fun W hW => Q5.out W hW) Try.underlying38 rfl infoCapS rfl) (by assumption) ?_; (try (refine wpAnyL_norm (by simp only [Act.put, List.setIfInBounds_toArray, List.set_cons_zero, List.set_cons_succ]; rfl) ?_))
  refine wpAnyL_ready (rs := [5]) (by kernel_rfl) (by simp) ?_; refine AllReadyL.cons rfl (fun K hK => ?_) AllReadyL.nil
  go_simp
  refine CA.out.mono ?_
  rintro e w3 ⟨rfl, h3, hf3⟩
  have A3 := Lib.hid h3
  have R3 := Lib.hid (P2.out.rr.fr hf3 (by have := D0.out; simp; omega) (by have := D0.out; simp; omega) (by have := D0.out; simp; omega))
  refine hK.out _ _ (fun _ => hHeld.trans hf3 (by simp)) (fun hHeld' => ?_); have hHeld := hHeld' (by decide); clear hHeld' hK K; (try (refine wpAnyL_norm (by simp only [Act.put, List.setIfInBounds_toArray, List.set_cons_zero, List.set_cons_succ]; rfl) ?_))
  clear h3 hf3 CA P2
  have CB := Lib.hid (rstorec_any _ _ _ _ _ _ _ _ R3.out A hA c hc)
  rw [HB.out, HBS.out, HFF.out] at CB
  refine wpAnyL_ready (rs := [11]) (by kernel_rfl) (by simp) ?_; refine AllReadyL.cons rfl (fun K hK => ?_) AllReadyL.nil
  go_simp
  refine CB.out.mono ?_
  rintro e w4 ⟨rfl, h4, hf4⟩
  have P4 : Hid (Pr w4 ap p g bg cap r bb tb cb ct bs' f') := Lib.hid ⟨A3.out.fr hf4 (by have := D0.out; simp; omega) (by have := D0.out; simp; omega) (by have := D0.out; simp; omega) (by have := D0.out; simp; omega), h4, D0.out⟩
  refine hK.out _ _ (fun _ => hHeld.trans hf4 (by simp)) (fun hHeld' => ?_); have hHeld := hHeld' (by decide); clear hHeld' hK K; (try (refine wpAnyL_norm (by simp only [Act.put, List.setIfInBounds_toArray, List.set_cons_zero, List.set_cons_succ]; rfl) ?_))
  clear h4 hf4 CB A3 R3
  refine wpAnyL_take (i := 12) (v := ?_) rfl (by kernel_rfl) (fun _ _ _ h => h) (Or.inl ⟨by rfl, ?_⟩) (by assumption) ?_; rotate_left; (focus (intro w hSw; skip; go_simp; (try with_reducible rfl))); (try (refine wpAnyL_norm (by simp only [Act.put, List.setIfInBounds_toArray, List.set_cons_zero, List.set_cons_succ]; rfl) ?_))
  refine wpAnyL_take (i := 13) (v := ?_) rfl (by kernel_rfl) (fun _ _ _ h => h) (Or.inl ⟨by rfl, ?_⟩) (by assumption) ?_; rotate_left; (focus (intro w hSw; skip; go_simp; (try with_reducible rfl))); (try (refine wpAnyL_norm (by simp only [Act.put, List.setIfInBounds_toArray, List.set_cons_zero, List.set_cons_succ]; rfl) ?_))
  refine wpAnyL_done (by kernel_rfl) ?_ _
  have F4 := Lib.hid ((F0.out.more (T := [g, bg, bb, tb]) (by simp)).trans hHeld (fun k hk => .inl hk))
  clear hHeld
  go_wp2_with fail
  go_ret
  exact ⟨bs', f', rfl, P4.out, F4.out, hLn.out⟩
set_option maxHeartbeats 4000000 in
set_option maxRecDepth 100000 in
theorem step_3 (w : World) (ap p g bg cap r bb tb cb ct : Nat) (bs : List Nat) (f : Nat → Bool) (h : Pr w ap p g bg cap r bb tb cb ct bs f) (k : Int) (A : Nat) (hA : A < 4294967296) (wd : Int) (k1 : -9223372036854775808 ≤ wd) (k2 : wd ≤ 9223372036854775807) (v : Nat) (hv : v < 4294967296) (c : Cp) (hc : c.Ok) (l : List Nat) (hb : Byt l) (h0 : kindOf k = 3) :
    Calls Try.prog 13 #[.pointer (some ⟨ap, 0, none⟩), .pointer (some ⟨r, 0, none⟩), .agg (dc k A wd v c l)] w (stepPost w ap p g bg cap r bb tb cb ct bs.length) := by
  obtain ⟨b0, hb0⟩ : ∃ b, w.heap.size = b := ⟨_, rfl⟩
  obtain ⟨w1, hw1⟩ : ∃ W, w.alloc (.cells (dc k A wd v c l) 40) = W := ⟨_, rfl⟩
  have A0 := Lib.hid (show At w1 b0 40 (dc k A wd v c l) from by rw [← hw1, ← hb0]; exact At.new w _ _)
  have F0 := Lib.hid (show Fr [] w w1 from by rw [← hw1]; exact (by repeat (first | exact Fr.refl _ _ | assumption | refine Fr.trans0 ?_ (by assumption) | refine Fr.drewN ?_ _ | refine Fr.alloc ?_ _ | refine Fr.drew ?_)))
  have P0 := Lib.hid (h.fr0 F0.out)
  have HW1 := Lib.hid hw1
  have HB0 := Lib.hid hb0
  have hlt := Lib.hid (show (ap < b0 ∧ p < b0 ∧ g < b0 ∧ bg < b0) ∧ (r < b0 ∧ bb < b0 ∧ tb < b0) from by rw [← hb0]; exact ⟨h.aa.lt, h.rr.lt⟩)
  obtain ⟨m, m1, m2, m3, m4, m5⟩ := kind_facts k
  have q0 := A0.out.cell 0
  have q1 := A0.out.cell 1
  have q2 := A0.out.cell 2
  have q3 := A0.out.cell 3
  have q12 := A0.out.cell 12
  unfold dc at q0 q1 q2 q3 q12
  simp only [List.getElem?_toArray, List.getElem?_cons_zero, List.getElem?_cons_succ] at q0 q1 q2 q3 q12
  have Q1 := Lib.hid fun W (hW : Fr [g, bg, bb, tb] w1 W) => (hW.cell (a := ⟨b0, 1, none⟩) A0.out.lt (by have := hlt.out; simp; omega)).trans q1
  have Q2 := Lib.hid fun W (hW : Fr [g, bg, bb, tb] w1 W) => (hW.cell (a := ⟨b0, 2, none⟩) A0.out.lt (by have := hlt.out; simp; omega)).trans q2
  have Q3 := Lib.hid fun W (hW : Fr [g, bg, bb, tb] w1 W) => (hW.cell (a := ⟨b0, 3, none⟩) A0.out.lt (by have := hlt.out; simp; omega)).trans q3
  have Q4 := Lib.hid fun W (hW : Fr [g, bg, bb, tb] w1 W) => (show At W b0 40 (dc k A wd v c l) from A0.out.fr hW (by have := hlt.out; simp; omega))
  have D0 := Lib.hid h.d
  clear h hw1 hb0
  rw [h0] at m4 m5
  go_enter Try.func13, Try.ntmps13
  go_upto_region 1 with (fail)
  rw [HW1.out, HB0.out]
  go_upto_region 10 with (fail)
  refine wp_region_L (fun W => Fr [g, bg, bb, tb] w1 W) [] (by kernel_rfl) (Fr.refl _ _).drew (fun hHeld => ?_)
  have P2 := Lib.hid (P0.out.fr0 (Fr.refl [] w1).drew)
  obtain ⟨w2, hw2⟩ : ∃ W, w1.drew = W := ⟨_, rfl⟩
  rw [hw2] at hHeld P2 ⊢
  clear hw2
  have CA := Lib.hid (azero_any _ _ _ _ _ _ _ _ P2.out.aa A v hA hv)
  obtain ⟨B, hB⟩ : ∃ B, decide (A + v ≤ bs.length) = B := ⟨_, rfl⟩
  rw [hB] at CA
  have HB := Lib.hid hB
  have hLn := Lib.hid (show (wrL bs A (List.replicate v 0)).length = bs.length from wrL_len _ _ _)
  obtain ⟨bs', hbs⟩ : ∃ x, wrL bs A (List.replicate v 0) = x := ⟨_, rfl⟩
  have HBS := Lib.hid hbs
  obtain ⟨f', hff⟩ : ∃ x, wrF bs f A (List.replicate v 0) = x := ⟨_, rfl⟩
  have HFF := Lib.hid hff
  rw [hbs] at CA hLn
  rw [hff] at CA
  clear hB hbs hff
  refine wpAnyL_take (i := 0) (v := ?_) rfl (by kernel_rfl) (fun _ _ _ h => h) (Or.inl ⟨by rfl, ?_⟩) (by assumption) ?_; rotate_left; (focus (intro w hSw; skip; go_simp; (try with_reducible rfl))); (try (refine wpAnyL_norm (by simp only [Act.put, List.setIfInBounds_toArray, List.set_cons_zero, List.set_cons_succ]; rfl) ?_))
  refine wpAnyL_take (i := 1) (v := ?_) rfl (by kernel_rfl) (fun _ _ _ h => h) (Or.inl ⟨by rfl, ?_⟩) (by assumption) ?_; rotate_left; (focus (intro w hSw; skip; go_simp; (try with_reducible rfl))); (try (refine wpAnyL_norm (by simp only [Act.put, List.setIfInBounds_toArray, List.set_cons_zero, List.set_cons_succ]; rfl) ?_))
  refine wpAnyL_take (i := 2) (v := ?_) rfl (by kernel_rfl) (fun _ _ _ h => h) (Or.inl ⟨by rfl, ?_⟩) (by assumption) ?_; rotate_left; (focus (intro w hSw; (have cc := Q1.out _ hSw); go_simp; (try with_reducible rfl))); (try (refine wpAnyL_norm (by simp only [Act.put, List.setIfInBounds_toArray, List.set_cons_zero, List.set_cons_succ]; rfl) ?_))
  refine wpAnyL_take (i := 3) (v := ?_) rfl (by kernel_rfl) (fun _ _ _ h => h) (Or.inl ⟨by rfl, ?_⟩) (by assumption) ?_; rotate_left; (focus (intro w hSw; skip; go_simp; (try with_reducible rfl))); (try (refine wpAnyL_norm (by simp only [Act.put, List.setIfInBounds_toArray, List.set_cons_zero, List.set_cons_succ]; rfl) ?_))
  refine wpAnyL_take (i := 4) (v := ?_) rfl (by kernel_rfl) (fun _ _ _ h => h) (Or.inl ⟨by rfl, ?_⟩) (by assumption) ?_; rotate_left; (focus (intro w hSw; (have cc := Q3.out _ hSw); go_simp; (try with_reducible rfl))); (try (refine wpAnyL_norm (by simp only [Act.put, List.setIfInBounds_toArray, List.set_cons_zero, List.set_cons_succ]; rfl) ?_))
  refine wpAnyL_take (i := 5) (v := ?_) rfl (by kernel_rfl) (fun _ _ _ h => h) (Or.inl ⟨by rfl, ?_⟩) (by assumption) ?_; rotate_left; (focus (intro w hSw; skip; go_simp; (try with_reducible rfl))); (try (refine wpAnyL_norm (by simp only [Act.put, List.setIfInBounds_toArray, List.set_cons_zero, List.set_cons_succ]; rfl) ?_))
  refine wpAnyL_take (i := 7) (v := ?_) rfl (by kernel_rfl) (fun _ _ _ h => h) (Or.inl ⟨by rfl, ?_⟩) (by assumption) ?_; rotate_left; (focus (intro w hSw; skip; go_simp; (try with_reducible rfl))); (try (refine wpAnyL_norm (by simp only [Act.put, List.setIfInBounds_toArray, List.set_cons_zero, List.set_cons_succ]; rfl) ?_))
  refine wpAnyL_take (i := 8) (v := ?_) rfl (by kernel_rfl) (fun _ _ _ h => h) (Or.inl ⟨by rfl, ?_⟩) (by assumption) ?_; rotate_left; (focus (intro w hSw; skip; go_simp; (try with_reducible rfl))); (try (refine wpAnyL_norm (by simp only [Act.put, List.setIfInBounds_toArray, List.set_cons_zero, List.set_cons_succ]; rfl) ?_))
  refine wpAnyL_take (i := 9) (v := ?_) rfl (by kernel_rfl) (fun _ _ _ h => h) (Or.inl ⟨by rfl, ?_⟩) (by assumption) ?_; rotate_left; (focus (intro w hSw; (have cc := Q1.out _ hSw); go_simp; (try with_reducible rfl))); (try (refine wpAnyL_norm (by simp only [Act.put, List.setIfInBounds_toArray, List.set_cons_zero, List.set_cons_succ]; rfl) ?_))
  refine wpAnyL_take (i := 10) (v := ?_) rfl (by kernel_rfl) (fun _ _ _ h => h) (Or.inl ⟨by rfl, ?_⟩) (by assumption) ?_; rotate_left; (focus (intro w hSw; skip; go_simp; (try with_reducible rfl))); (try (refine wpAnyL_norm (by simp only [Act.put, List.setIfInBounds_toArray, List.set_cons_zero, List.set_cons_succ]; rfl) ?_))
  refine wpAnyL_take (i := 11) (v := ?_) rfl (by kernel_rfl) (fun _ _ _ h => h) (Or.inl ⟨by rfl, ?_⟩) (by assumption) ?_; rotate_left; (focus (intro w hSw; (have cc := Q3.out _ hSw); go_simp; (try with_reducible rfl))); (try (refine wpAnyL_norm (by simp only [Act.put, List.setIfInBounds_toArray, List.set_cons_zero, List.set_cons_succ]; rfl) ?_))
  refine wpAnyL_take (i := 12) (v := ?_) rfl (by kernel_rfl) (fun _ _ _ h => h) (Or.inl ⟨by rfl, ?_⟩) (by assumption) ?_; rotate_left; (focus (intro w hSw; skip; go_simp; (try with_reducible rfl))); (try (refine wpAnyL_norm (by simp only [Act.put, List.setIfInBounds_toArray, List.set_cons_zero, List.set_cons_succ]; rfl) ?_))
  refine wpAnyL_ready (rs := [6]) (by kernel_rfl) (by simp) ?_; refine AllReadyL.cons rfl (fun K hK => ?_) AllReadyL.nil
  go_simp
  refine CA.out.mono ?_
  rintro e w3 ⟨rfl, h3, hf3⟩
  have A3 := Lib.hid h3
  have R3 := Lib.hid (P2.out.rr.fr hf3 (by have := D0.out; simp; omega) (by have := D0.out; simp; omega) (by have := D0.out; simp; omega))
  refine hK.out _ _ (fun _ => hHeld.trans hf3 (by simp)) (fun hHeld' => ?_); have hHeld := hHeld' (by decide); clear hHeld' hK K; (try (refine wpAnyL_norm (by simp only [Act.put, List.setIfInBounds_toArray, List.set_cons_zero, List.set_cons_succ]; rfl) ?_))
  clear h3 hf3 CA P2
  have CB := Lib.hid (rzero_any _ _ _ _ _ _ _ _ R3.out A v hA hv)
  rw [HB.out, HBS.out, HFF.out] at CB
  refine wpAnyL_ready (rs := [13]) (by kernel_rfl) (by simp) ?_; refine AllReadyL.cons rfl (fun K hK => ?_) AllReadyL.nil
  go_simp
  refine CB.out.mono ?_
  rintro e w4 ⟨rfl, h4, hf4⟩
  have P4 : Hid (Pr w4 ap p g bg cap r bb tb cb ct bs' f') := Lib.hid ⟨A3.out.fr hf4 (by have := D0.out; simp; omega) (by have := D0.out; simp; omega) (by have := D0.out; simp; omega) (by have := D0.out; simp; omega), h4, D0.out⟩
  refine hK.out _ _ (fun _ => hHeld.trans hf4 (by simp)) (fun hHeld' => ?_); have hHeld := hHeld' (by decide); clear hHeld' hK K; (try (refine wpAnyL_norm (by simp only [Act.put, List.setIfInBounds_toArray, List.set_cons_zero, List.set_cons_succ]; rfl) ?_))
  clear h4 hf4 CB A3 R3
  refine wpAnyL_take (i := 14) (v := ?_) rfl (by kernel_rfl) (fun _ _ _ h => h) (Or.inl ⟨by rfl, ?_⟩) (by assumption) ?_; rotate_left; (focus (intro w hSw; skip; go_simp; (try with_reducible rfl))); (try (refine wpAnyL_norm (by simp only [Act.put, List.setIfInBounds_toArray, List.set_cons_zero, List.set_cons_succ]; rfl) ?_))
  refine wpAnyL_take (i := 15) (v := ?_) rfl (by kernel_rfl) (fun _ _ _ h => h) (Or.inl ⟨by rfl, ?_⟩) (by assumption) ?_; rotate_left; (focus (intro w hSw; skip; go_simp; (try with_reducible rfl))); (try (refine wpAnyL_norm (by simp only [Act.put, List.setIfInBounds_toArray, List.set_cons_zero, List.set_cons_succ]; rfl) ?_))
  refine wpAnyL_done (by kernel_rfl) ?_ _
  have F4 := Lib.hid ((F0.out.more (T := [g, bg, bb, tb]) (by simp)).trans hHeld (fun k hk => .inl hk))
  clear hHeld
  go_wp2_with fail
  go_ret
  exact ⟨bs', f', rfl, P4.out, F4.out, hLn.out⟩
set_option maxHeartbeats 4000000 in
set_option maxRecDepth 100000 in
theorem step_4 (w : World) (ap p g bg cap r bb tb cb ct : Nat) (bs : List Nat) (f : Nat → Bool) (h : Pr w ap p g bg cap r bb tb cb ct bs f) (k : Int) (A : Nat) (hA : A < 4294967296) (wd : Int) (k1 : -9223372036854775808 ≤ wd) (k2 : wd ≤ 9223372036854775807) (v : Nat) (hv : v < 4294967296) (c : Cp) (hc : c.Ok) (l : List Nat) (hb : Byt l) (h0 : kindOf k = 4) :
    Calls Try.prog 13 #[.pointer (some ⟨ap, 0, none⟩), .pointer (some ⟨r, 0, none⟩), .agg (dc k A wd v c l)] w (stepPost w ap p g bg cap r bb tb cb ct bs.length) := by
  obtain ⟨b0, hb0⟩ : ∃ b, w.heap.size = b := ⟨_, rfl⟩
  obtain ⟨w1, hw1⟩ : ∃ W, w.alloc (.cells (dc k A wd v c l) 40) = W := ⟨_, rfl⟩
  have A0 := Lib.hid (show At w1 b0 40 (dc k A wd v c l) from by rw [← hw1, ← hb0]; exact At.new w _ _)
  have F0 := Lib.hid (show Fr [] w w1 from by rw [← hw1]; exact (by repeat (first | exact Fr.refl _ _ | assumption | refine Fr.trans0 ?_ (by assumption) | refine Fr.drewN ?_ _ | refine Fr.alloc ?_ _ | refine Fr.drew ?_)))
  have P0 := Lib.hid (h.fr0 F0.out)
  have HW1 := Lib.hid hw1
  have HB0 := Lib.hid hb0
  have hlt := Lib.hid (show (ap < b0 ∧ p < b0 ∧ g < b0 ∧ bg < b0) ∧ (r < b0 ∧ bb < b0 ∧ tb < b0) from by rw [← hb0]; exact ⟨h.aa.lt, h.rr.lt⟩)
  obtain ⟨m, m1, m2, m3, m4, m5⟩ := kind_facts k
  have q0 := A0.out.cell 0
  have q1 := A0.out.cell 1
  have q2 := A0.out.cell 2
  have q3 := A0.out.cell 3
  have q12 := A0.out.cell 12
  unfold dc at q0 q1 q2 q3 q12
  simp only [List.getElem?_toArray, List.getElem?_cons_zero, List.getElem?_cons_succ] at q0 q1 q2 q3 q12
  have Q1 := Lib.hid fun W (hW : Fr [g, bg, bb, tb] w1 W) => (hW.cell (a := ⟨b0, 1, none⟩) A0.out.lt (by have := hlt.out; simp; omega)).trans q1
  have Q2 := Lib.hid fun W (hW : Fr [g, bg, bb, tb] w1 W) => (hW.cell (a := ⟨b0, 2, none⟩) A0.out.lt (by have := hlt.out; simp; omega)).trans q2
  have Q3 := Lib.hid fun W (hW : Fr [g, bg, bb, tb] w1 W) => (hW.cell (a := ⟨b0, 3, none⟩) A0.out.lt (by have := hlt.out; simp; omega)).trans q3
  have Q4 := Lib.hid fun W (hW : Fr [g, bg, bb, tb] w1 W) => (show At W b0 40 (dc k A wd v c l) from A0.out.fr hW (by have := hlt.out; simp; omega))
  have D0 := Lib.hid h.d
  clear h hw1 hb0
  rw [h0] at m4 m5
  go_enter Try.func13, Try.ntmps13
  go_upto_region 1 with (fail)
  rw [HW1.out, HB0.out]
  go_upto_region 12 with (fail)
  refine wp_region_L (fun W => Fr [g, bg, bb, tb] w1 W) [] (by kernel_rfl) (Fr.refl _ _).drew (fun hHeld => ?_)
  have P2 := Lib.hid (P0.out.fr0 (Fr.refl [] w1).drew)
  obtain ⟨w2, hw2⟩ : ∃ W, w1.drew = W := ⟨_, rfl⟩
  rw [hw2] at hHeld P2 ⊢
  clear hw2
  have CA := Lib.hid ((auntag_any _ _ _ _ _ _ _ _ P2.out.aa A hA).mono fun e w' ⟨h1, h2, h3⟩ => (show e = Ending.returned (Value.bool (unB bs f A)) ∧ Ar w' ap p g bg cap bs (if unB bs f A = true then upd f (A / 16) false else f) ∧ Fr [g, bg] w2 w' from ⟨h1, h2, h3.more (by simp)⟩))
  obtain ⟨B, hB⟩ : ∃ B, unB bs f A = B := ⟨_, rfl⟩
  rw [hB] at CA
  have HB := Lib.hid hB
  obtain ⟨bs', hbs⟩ : ∃ x, bs = x := ⟨_, rfl⟩
  have HBS := Lib.hid hbs
  obtain ⟨f', hff⟩ : ∃ x, (if B = true then upd f (A / 16) false else f) = x := ⟨_, rfl⟩
  have HFF := Lib.hid hff
  have hLn := Lib.hid (show bs'.length = bs.length from by rw [hbs])
  rw [hbs] at CA
  rw [hff] at CA
  clear hB hbs hff
  refine wpAnyL_take (i := 0) (v := ?_) rfl (by kernel_rfl) (fun _ _ _ h => h) (Or.inl ⟨by rfl, ?_⟩) (by assumption) ?_; rotate_left; (focus (intro w hSw; skip; go_simp; (try with_reducible rfl))); (try (refine wpAnyL_norm (by simp only [Act.put, List.setIfInBounds_toArray, List.set_cons_zero, List.set_cons_succ]; rfl) ?_))
  refine wpAnyL_take (i := 1) (v := ?_) rfl (by kernel_rfl) (fun _ _ _ h => h) (Or.inl ⟨by rfl, ?_⟩) (by assumption) ?_; rotate_left; (focus (intro w hSw; skip; go_simp; (try with_reducible rfl))); (try (refine wpAnyL_norm (by simp only [Act.put, List.setIfInBounds_toArray, List.set_cons_zero, List.set_cons_succ]; rfl) ?_))
  refine wpAnyL_take (i := 2) (v := ?_) rfl (by kernel_rfl) (fun _ _ _ h => h) (Or.inl ⟨by rfl, ?_⟩) (by assumption) ?_; rotate_left; (focus (intro w hSw; (have cc := Q1.out _ hSw); go_simp; (try with_reducible rfl))); (try (refine wpAnyL_norm (by simp only [Act.put, List.setIfInBounds_toArray, List.set_cons_zero, List.set_cons_succ]; rfl) ?_))
  refine wpAnyL_take (i := 4) (v := ?_) rfl (by kernel_rfl) (fun _ _ _ h => h) (Or.inl ⟨by rfl, ?_⟩) (by assumption) ?_; rotate_left; (focus (intro w hSw; skip; go_simp; (try with_reducible rfl))); (try (refine wpAnyL_norm (by simp only [Act.put, List.setIfInBounds_toArray, List.set_cons_zero, List.set_cons_succ]; rfl) ?_))
  refine wpAnyL_take (i := 5) (v := ?_) rfl (by kernel_rfl) (fun _ _ _ h => h) (Or.inl ⟨by rfl, ?_⟩) (by assumption) ?_; rotate_left; (focus (intro w hSw; skip; go_simp; (try with_reducible rfl))); (try (refine wpAnyL_norm (by simp only [Act.put, List.setIfInBounds_toArray, List.set_cons_zero, List.set_cons_succ]; rfl) ?_))
  refine wpAnyL_take (i := 6) (v := ?_) rfl (by kernel_rfl) (fun _ _ _ h => h) (Or.inl ⟨by rfl, ?_⟩) (by assumption) ?_; rotate_left; (focus (intro w hSw; (have cc := Q1.out _ hSw); go_simp; (try with_reducible rfl))); (try (refine wpAnyL_norm (by simp only [Act.put, List.setIfInBounds_toArray, List.set_cons_zero, List.set_cons_succ]; rfl) ?_))
  refine wpAnyL_ready (rs := [3]) (by kernel_rfl) (by simp) ?_; refine AllReadyL.cons rfl (fun K hK => ?_) AllReadyL.nil
  go_simp
  refine CA.out.mono ?_
  rintro e w3 ⟨rfl, h3, hf3⟩
  have A3 := Lib.hid h3
  have R3 := Lib.hid (P2.out.rr.fr hf3 (by have := D0.out; simp; omega) (by have := D0.out; simp; omega) (by have := D0.out; simp; omega))
  refine hK.out _ _ (fun _ => hHeld.trans hf3 (by simp)) (fun hHeld' => ?_); have hHeld := hHeld' (by decide); clear hHeld' hK K; (try (refine wpAnyL_norm (by simp only [Act.put, List.setIfInBounds_toArray, List.set_cons_zero, List.set_cons_succ]; rfl) ?_))
  clear h3 hf3 CA P2
  have CB := Lib.hid ((runtag_any _ _ _ _ _ _ _ _ R3.out A hA).mono fun e w' ⟨h1, h2, h3⟩ => (show e = Ending.returned (Value.bool (unB bs f A)) ∧ Ra w' r bb tb cb ct bs (if unB bs f A = true then upd f (A / 16) false else f) ∧ Fr [bb, tb] w3 w' from ⟨h1, h2, h3.more (by simp)⟩))
  rw [HB.out, HFF.out] at CB
  rw [HBS.out] at CB
  refine wpAnyL_ready (rs := [7]) (by kernel_rfl) (by simp) ?_; refine AllReadyL.cons rfl (fun K hK => ?_) AllReadyL.nil
  go_simp
  refine CB.out.mono ?_
  rintro e w4 ⟨rfl, h4, hf4⟩
  have P4 : Hid (Pr w4 ap p g bg cap r bb tb cb ct bs' f') := Lib.hid ⟨A3.out.fr hf4 (by have := D0.out; simp; omega) (by have := D0.out; simp; omega) (by have := D0.out; simp; omega) (by have := D0.out; simp; omega), h4, D0.out⟩
  refine hK.out _ _ (fun _ => hHeld.trans hf4 (by simp)) (fun hHeld' => ?_); have hHeld := hHeld' (by decide); clear hHeld' hK K; (try (refine wpAnyL_norm (by simp only [Act.put, List.setIfInBounds_toArray, List.set_cons_zero, List.set_cons_succ]; rfl) ?_))
  clear h4 hf4 CB A3 R3
  refine wpAnyL_take (i := 8) (v := ?_) rfl (by kernel_rfl) (fun _ _ _ h => h) (Or.inl ⟨by rfl, ?_⟩) (by assumption) ?_; rotate_left; (focus (intro w hSw; skip; go_simp; (try with_reducible rfl))); (try (refine wpAnyL_norm (by simp only [Act.put, List.setIfInBounds_toArray, List.set_cons_zero, List.set_cons_succ]; rfl) ?_))
  refine wpAnyL_take (i := 9) (v := ?_) rfl (by kernel_rfl) (fun _ _ _ h => h) (Or.inl ⟨by rfl, ?_⟩) (by assumption) ?_; rotate_left; (focus (intro w hSw; skip; go_simp; (try with_reducible rfl))); (try (refine wpAnyL_norm (by simp only [Act.put, List.setIfInBounds_toArray, List.set_cons_zero, List.set_cons_succ]; rfl) ?_))
  refine wpAnyL_done (by kernel_rfl) ?_ _
  have F4 := Lib.hid ((F0.out.more (T := [g, bg, bb, tb]) (by simp)).trans hHeld (fun k hk => .inl hk))
  clear hHeld
  go_wp2_with fail
  go_ret
  exact ⟨bs', f', rfl, P4.out, F4.out, hLn.out⟩
end Go.Proofs.Ytilgklpponaoeaa
