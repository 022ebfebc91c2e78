/-
  ScanPages: of any capabilities stored in an arena those that are stale lose their tags, page by page, as the reference says; no byte changes. No condition.
-/







import Derived.Test.YtilgklpponaoeaaRPage
import Derived.Test.YtilgklpponaoeaaPainted
import Derived.Test.YtilgklpponaoeaaWorks
import Derived.Deep.CutBlock
import Derived.Deep.DeepCutAuto
set_option linter.unusedVariables false
namespace Go.Proofs.Ytilgklpponaoeaa
open Go.ChangeShapes Go.WideShapes Go.ChangeAt Go.RowKit
structure Sp (w0 w : World) (B K pp : Nat) (hs : Int → Bool) (ap p g bg cap : Nat) (bs : List Nat) (f : Nat → Bool) (r bb tb cb ct : Nat) (bs2 : List Nat) (f2 : Nat → Bool) (q8 : Nat) (v : Value) (F : Nat → Bool) : Prop where
  fr : Fr [] w0 w
  H : Hs B w (some ⟨pp, 0, none⟩) hs
  hB : B ≤ w.heap.size
  A : Ar w ap p g bg cap bs f
  R : Ra w r bb tb cb ct bs2 f2
  P : At w q8 53 #[v]
  V : Bs 0 w v 256 F
  b0 : w0.heap.size ≤ B
  vB : ∀ x, v.ownBlock = some x → x < B
  qB : q8 < B
  hg : B ≤ g ∧ B ≤ bg ∧ B ≤ bb ∧ B ≤ tb
  lo : ap < K ∧ p < K ∧ g < K ∧ bg < K
  hi : K ≤ r ∧ K ≤ bb ∧ K ≤ tb
section
variable {w0 w w' : World} {B K pp : Nat} {hs : Int → Bool} {ap p g bg cap : Nat} {bs bs' : List Nat} {f f' : Nat → Bool} {r bb tb cb ct : Nat} {bs2 : List Nat} {f2 : Nat → Bool} {q8 : Nat} {v : Value} {F : Nat → Bool}
theorem Sp.fr0 (h : Sp w0 w B K pp hs ap p g bg cap bs f r bb tb cb ct bs2 f2 q8 v F) (G : Fr [] w w') : Sp w0 w' B K pp hs ap p g bg cap bs f r bb tb cb ct bs2 f2 q8 v F :=
  ⟨h.fr.trans0 G, h.H.fr G (by simp), Nat.le_trans h.hB G.size, h.A.fr0 G, h.R.fr0 G, h.P.fr G (by simp), own_fr0 h.V G, h.b0, h.vB, h.qB, h.hg, h.lo, h.hi⟩
theorem Sp.stA (h : Sp w0 w B K pp hs ap p g bg cap bs f r bb tb cb ct bs2 f2 q8 v F) (A' : Ar w' ap p g bg cap bs' f') (G : Fr [g, bg] w w') : Sp w0 w' B K pp hs ap p g bg cap bs' f' r bb tb cb ct bs2 f2 q8 v F := by
  have h1 := h.b0; have h2 := h.hg; have h3 := h.lo; have h4 := h.hi; have h5 := h.qB
  exact ⟨h.fr.trans G (by simp; omega), h.H.fr G (by simp; omega), Nat.le_trans h.hB G.size, A', h.R.fr G (by simp; omega) (by simp; omega) (by simp; omega), h.P.fr G (by simp; omega), own_fr h.V G (fun x hx => by have := h.vB x hx; simp; omega), h.b0, h.vB, h.qB, h.hg, h.lo, h.hi⟩
theorem Sp.stR (h : Sp w0 w B K pp hs ap p g bg cap bs f r bb tb cb ct bs2 f2 q8 v F) (R' : Ra w' r bb tb cb ct bs' f') (G : Fr [bb, tb] w w') : Sp w0 w' B K pp hs ap p g bg cap bs f r bb tb cb ct bs' f' q8 v F := by
  have h1 := h.b0; have h2 := h.hg; have h3 := h.lo; have h4 := h.hi; have h5 := h.qB
  exact ⟨h.fr.trans G (by simp; omega), h.H.fr G (by simp; omega), Nat.le_trans h.hB G.size, h.A.fr G (by simp; omega) (by simp; omega) (by simp; omega) (by simp; omega), R', h.P.fr G (by simp; omega), own_fr h.V G (fun x hx => by have := h.vB x hx; simp; omega), h.b0, h.vB, h.qB, h.hg, h.lo, h.hi⟩
end
namespace scanPages
theorem fitsPut2 {cs : List Value} (h : Fits [.i .u32, .i .u32, .i .u8, .i .u16, .i .u16, .i .u16, .i .u16, .i .u32, .b] cs) : ∃ (a : Nat) (c : Cp), cs = .int .u32 (a : Int) :: c.l ∧ a < 4294967296 ∧ c.Ok := by
  obtain ⟨v0, c1, rfl, ⟨z0, rfl, w0⟩, h1⟩ := h.cons
  obtain ⟨c, rfl, hc⟩ := fitsC h1
  obtain ⟨b0, b1⟩ := bounds_u32 w0
  obtain ⟨a, rfl⟩ := Int.eq_ofNat_of_zero_le b0
  exact ⟨a, c, rfl, by omega, hc⟩
set_option maxHeartbeats 8000000 in
set_option maxRecDepth 100000 in
theorem walk (a0 : Option Addr) (len0 cap0 : Nat) (a1 : Option Addr) (len1 cap1 : Nat) (a2 : Option Addr) (len2 cap2 : Nat) (z2 : List Int) (w : World) (w0 : Elems w a0 len0 [.i .u32, .i .u32]) (w1 : Elems w a1 len1 [.i .u32, .i .u32, .i .u8, .i .u16, .i .u16, .i .u16, .i .u16, .i .u32, .b]) (w2 : Ints .i64 w a2 len2 z2) :
    Calls Try.prog 4 #[.slice a0 len0 cap0, .slice a1 len1 cap1, .slice a2 len2 cap2] w fun e w' => e = .returned (.bool true) ∧ Fr [] w w' := by
  have CP := Lib.hid (painted_any w a0 len0 cap0 w0)
  obtain ⟨hlen, hrec⟩ := w1
  have Hrec := Lib.hid hrec
  have HZ := Lib.hid w2
  have hlen2 := w2.1
  have CN := Lib.hid fun W => anew_any W 16 (by omega) (by omega)
  have CR := Lib.hid fun W => rnewA_any W 16 (by omega) (by omega)
  clear w0 hrec w2
  go_enter Try.func4, Try.ntmps4
  go_wp2_with fail
  refine (CP.out).mono ?_
  rintro e w1 ⟨F, pp, pp2, pp3, v, rfl, hpt, hbs, hf1⟩
  obtain ⟨av, cv, rfl, -⟩ := own_slice hbs
  have fa := (Fr.refl [] w1).alloc (.cells #[.slice av 256 cv] 53)
  have HP1 := Lib.hid (hpt.fr fa (by simp) (by simp) (by simp))
  have HB1 := Lib.hid (own_fr0 hbs fa)
  have A1 := Lib.hid (At.new w1 53 #[.slice av 256 cv])
  have F1 := Lib.hid (hf1.alloc (.cells #[.slice av 256 cv] 53))
  clear hpt hbs hf1 CP fa
  go_wp2_with fail
  obtain ⟨w2, hw2⟩ : ∃ W, w1.alloc (.cells #[.slice av 256 cv] 53) = W := ⟨_, rfl⟩
  rw [hw2] at HP1 F1 HB1 A1 ⊢
  obtain ⟨q8, hq8⟩ : ∃ q, w1.heap.size = q := ⟨_, rfl⟩
  rw [hq8] at A1 ⊢
  clear hw2 hq8
  have hs1 := F1.out.size
  refine (CN.out _).mono ?_
  rintro e w3 ⟨ap, p, g, bg, cap, rfl, ha, h1, h2, h3, h4, hf3⟩
  have hal := ha.lt
  have HA := Lib.hid ha
  have HF3 := Lib.hid hf3
  clear ha hf3 CN
  go_wp2_with fail
  refine (CR.out _).mono ?_
  rintro e w4 ⟨r, bb, tb, cb, ct, rfl, hr, k1, k2, k3, hf4⟩
  have HH := Lib.hid (((Hs.of HP1.out).fr HF3.out (by simp)).fr hf4 (by simp))
  obtain ⟨hs, hhs⟩ : ∃ hs, hasP 256 F = hs := ⟨_, rfl⟩
  have HHS := Lib.hid hhs
  rw [hhs] at HH
  have hql := A1.out.lt
  have hvl := fun x (hx : (Value.slice av 256 cv).ownBlock = some x) => (HB1.out.lt x hx).2
  have hs3 := HF3.out.size
  have hs4 := hf4.size
  obtain ⟨B, hB⟩ : ∃ B, w2.heap.size = B := ⟨_, rfl⟩
  obtain ⟨K, hK⟩ : ∃ K, w3.heap.size = K := ⟨_, rfl⟩
  rw [hB] at HH h1 h2 h3 h4 hs1 hql hvl hs3
  rw [hK] at hal k1 k2 k3 hs4 hs3
  have HL0 := Lib.hid (show (List.replicate (256 * 16) 0).length = 4096 by simp)
  have S0 : Hid (Sp w w4 B K pp hs ap p g bg cap (List.replicate (256 * 16) 0) (fun _ => false) r bb tb cb ct (List.replicate (256 * 16) 0) (fun _ => false) q8 (.slice av 256 cv) F) := Lib.hid
    ⟨(F1.out.trans0 HF3.out).trans0 hf4, HH.out, by omega, HA.out.fr0 hf4, hr, (A1.out.fr HF3.out (by simp)).fr hf4 (by simp), own_fr0 (own_fr0 HB1.out HF3.out) hf4, hs1, hvl, hql, ⟨h3, h4, by omega, by omega⟩, hal, ⟨k1, k2, k3⟩⟩
  obtain ⟨bs0, hbs0⟩ : ∃ bs, List.replicate (256 * 16) 0 = bs := ⟨_, rfl⟩
  rw [hbs0] at HL0 S0
  clear hr hf4 hhs hB hK hbs0 HH HA HF3 HP1 HB1 A1 F1 CR hal h1 h2 h3 h4 k1 k2 k3 hql hvl hs1 hs3 hs4
  go_upto_block 0 with (fail)
  go_cut [13] (fun _ wx => ∃ (bs : List Nat) (f : Nat → Bool), bs.length = 4096 ∧ Sp w wx B K pp hs ap p g bg cap bs f r bb tb cb ct bs f q8 (.slice av 256 cv) F)
  case first =>
    go_wp2_with fail
    go_loopw [13] (fun i wr => ∃ (k : Nat) (bs : List Nat) (f : Nat → Bool), k ≤ len1 ∧ i = .int .i64 k ∧ bs.length = 4096 ∧ Sp w wr B K pp hs ap p g bg cap bs f r bb tb cb ct bs f q8 (.slice av 256 cv) F) (fun i _ => len1 - (intOf i).toNat)
    case atStart => exact ⟨0, bs0, _, by omega, rfl, HL0.out, S0.out⟩
    case round =>
      clear S0 HL0
      obtain ⟨k, bs, f, hk, rfl, hbl, hs0⟩ := hrel
      have S1 := Lib.hid hs0
      have HBL := Lib.hid hbl
      clear hs0 hbl
      by_cases h5 : k < len1
      · by_cases h6 : k < 40
        · obtain ⟨b, off, rfl, hb, hcells⟩ := Hrec.out.resolve_left (by omega)
          obtain ⟨cs, hfit, hcs⟩ := hcells k h5
          obtain ⟨a, c, rfl, ha32, hok⟩ := fitsPut2 hfit
          have hc0 := hcs 0 (by simp)
          simp only [List.length_cons, List.length_nil, List.getElem?_cons_zero, Nat.reduceAdd, Nat.add_zero] at hc0
          have HC := Lib.hid (fun W (hW : Fr [] w W) j v (hv : c.l[j]? = some v) => (hW.cell (a := ⟨b, off + (k * 9 + (j + 1)), none⟩) hb (by simp)).trans ((hcs (j + 1) (by have := (List.getElem?_eq_some_iff.1 hv).1; rw [Cp.l_len] at this; simp; omega)).trans hv))
          have HC0 := Lib.hid (fun W (hW : Fr [] w W) => (hW.cell (a := ⟨b, off + k * 9, none⟩) hb (by simp)).trans hc0)
          have CSA := Lib.hid fun W (hA : Ar W ap p g bg cap bs f) => astorec_b W ap p g bg cap bs f hA a ha32 c hok
          have CSR := Lib.hid fun W (hA : Ra W r bb tb cb ct bs f) => rstorec_any W r bb tb cb ct bs f hA a ha32 c hok
          obtain ⟨X, hX⟩ : ∃ X, whB bs.length a = X := ⟨_, rfl⟩
          rw [hX] at CSA CSR
          have HSL := Lib.hid (scL_len bs a c)
          clear hcs hcells hfit hc0 hX hok
          go_wp2_with fail
          refine wp_region_L (fun W => Fr [] w W) [] (by kernel_rfl) (S1.out.fr.drew) (fun hHeld => ?_)
          have S2 := Lib.hid (S1.out.fr0 (Fr.refl [] wr).drew)
          refine wpAnyL_take (i := 0) (v := ?_) rfl (by kernel_rfl) (fun _ _ _ h => h) (Or.inl ⟨by rfl, ?_⟩) (by assumption) ?_; rotate_left; (focus (intro w hSw; skip; go_simp; (try with_reducible rfl))); (try (refine wpAnyL_norm (by simp only [Act.put, List.setIfInBounds_toArray, List.set_cons_zero, List.set_cons_succ]; rfl) ?_))
          refine wpAnyL_take (i := 1) (v := ?_) rfl (by kernel_rfl) (fun _ _ _ h => h) (Or.inl ⟨by rfl, ?_⟩) (by assumption) ?_; rotate_left; (focus (intro w hSw; skip; go_simp; (try with_reducible rfl))); (try (refine wpAnyL_norm (by simp only [Act.put, List.setIfInBounds_toArray, List.set_cons_zero, List.set_cons_succ]; rfl) ?_))
          refine wpAnyL_take (i := 2) (v := ?_) rfl (by kernel_rfl) (fun _ _ _ h => h) (Or.inl ⟨by rfl, ?_⟩) (by assumption) ?_; rotate_left; (focus (intro w hSw; skip; go_simp; (try with_reducible rfl))); (try (refine wpAnyL_norm (by simp only [Act.put, List.setIfInBounds_toArray, List.set_cons_zero, List.set_cons_succ]; rfl) ?_))
          refine wpAnyL_take (i := 3) (v := ?_) rfl (by kernel_rfl) (fun _ _ _ h => h) (Or.inl ⟨by rfl, ?_⟩) (by assumption) ?_; rotate_left; (focus (intro w hSw; skip; go_simp; (try with_reducible rfl))); (try (refine wpAnyL_norm (by simp only [Act.put, List.setIfInBounds_toArray, List.set_cons_zero, List.set_cons_succ]; rfl) ?_))
          refine wpAnyL_take (i := 4) (v := ?_) rfl (by kernel_rfl) (fun _ _ _ h => h) (Or.inl ⟨by rfl, ?_⟩) (by assumption) ?_; rotate_left; (focus (intro w hSw; skip; go_simp; (try with_reducible rfl))); (try (refine wpAnyL_norm (by simp only [Act.put, List.setIfInBounds_toArray, List.set_cons_zero, List.set_cons_succ]; rfl) ?_))
          refine wpAnyL_take (i := 5) (v := ?_) rfl (by kernel_rfl) (fun _ _ _ h => h) (Or.inl ⟨by rfl, ?_⟩) (by assumption) ?_; rotate_left; (focus (intro w hSw; (have cc := HC0.out _ hSw); go_simp; (try with_reducible rfl))); (try (refine wpAnyL_norm (by simp only [Act.put, List.setIfInBounds_toArray, List.set_cons_zero, List.set_cons_succ]; rfl) ?_))
          refine wpAnyL_take (i := 6) (v := ?_) rfl (by kernel_rfl) (fun _ _ _ h => h) (Or.inl ⟨by rfl, ?_⟩) (by assumption) ?_; rotate_left; (focus (intro w hSw; skip; go_simp; (try with_reducible rfl))); (try (refine wpAnyL_norm (by simp only [Act.put, List.setIfInBounds_toArray, List.set_cons_zero, List.set_cons_succ]; rfl) ?_))
          refine wpAnyL_take (i := 7) (v := ?_) rfl (by kernel_rfl) (fun _ _ _ h => h) (Or.inl ⟨by rfl, ?_⟩) (by assumption) ?_; rotate_left; (focus (intro w hSw; skip; go_simp; (try with_reducible rfl))); (try (refine wpAnyL_norm (by simp only [Act.put, List.setIfInBounds_toArray, List.set_cons_zero, List.set_cons_succ]; rfl) ?_))
          refine wpAnyL_take (i := 8) (v := ?_) rfl (by kernel_rfl) (fun _ _ _ h => h) (Or.inl ⟨by rfl, ?_⟩) (by assumption) ?_; rotate_left; (focus (intro w hSw; skip; go_simp; (try with_reducible rfl))); (try (refine wpAnyL_norm (by simp only [Act.put, List.setIfInBounds_toArray, List.set_cons_zero, List.set_cons_succ]; rfl) ?_))
          refine wpAnyL_take (i := 9) (v := ?_) rfl (by kernel_rfl) (fun _ _ _ h => h) (Or.inl ⟨by rfl, ?_⟩) (by assumption) ?_; rotate_left; (focus (intro w hSw; skip; go_simp; (try with_reducible rfl))); (try (refine wpAnyL_norm (by simp only [Act.put, List.setIfInBounds_toArray, List.set_cons_zero, List.set_cons_succ]; rfl) ?_))
          refine wpAnyL_take (i := 10) rfl (by kernel_rfl) (fun _ _ _ h => h) (yields_load_at 38 (.tmp 65) rfl ⟨b, off + k * 9 + 1, none⟩ rfl c.l _ (fun W h j v hv => by
            rw [Go.WideShapes.add_plain, show off + k * 9 + 1 + j = off + (k * 9 + (j + 1)) by omega]
            exact HC.out W h j v hv) Try.underlying38 rfl infoCapS rfl) (by assumption) ?_; (try (refine wpAnyL_norm (by simp only [Act.put, List.setIfInBounds_toArray, List.set_cons_zero, List.set_cons_succ]; rfl) ?_))
          refine wpAnyL_take (i := 12) (v := ?_) rfl (by kernel_rfl) (fun _ _ _ h => h) (Or.inl ⟨by rfl, ?_⟩) (by assumption) ?_; rotate_left; (focus (intro w hSw; skip; go_simp; (try with_reducible rfl))); (try (refine wpAnyL_norm (by simp only [Act.put, List.setIfInBounds_toArray, List.set_cons_zero, List.set_cons_succ]; rfl) ?_))
          refine wpAnyL_take (i := 13) (v := ?_) rfl (by kernel_rfl) (fun _ _ _ h => h) (Or.inl ⟨by rfl, ?_⟩) (by assumption) ?_; rotate_left; (focus (intro w hSw; skip; go_simp; (try with_reducible rfl))); (try (refine wpAnyL_norm (by simp only [Act.put, List.setIfInBounds_toArray, List.set_cons_zero, List.set_cons_succ]; rfl) ?_))
          refine wpAnyL_take (i := 14) (v := ?_) rfl (by kernel_rfl) (fun _ _ _ h => h) (Or.inl ⟨by rfl, ?_⟩) (by assumption) ?_; rotate_left; (focus (intro w hSw; skip; go_simp; (try with_reducible rfl))); (try (refine wpAnyL_norm (by simp only [Act.put, List.setIfInBounds_toArray, List.set_cons_zero, List.set_cons_succ]; rfl) ?_))
          refine wpAnyL_take (i := 15) (v := ?_) rfl (by kernel_rfl) (fun _ _ _ h => h) (Or.inl ⟨by rfl, ?_⟩) (by assumption) ?_; rotate_left; (focus (intro w hSw; skip; go_simp; (try with_reducible rfl))); (try (refine wpAnyL_norm (by simp only [Act.put, List.setIfInBounds_toArray, List.set_cons_zero, List.set_cons_succ]; rfl) ?_))
          refine wpAnyL_take (i := 16) (v := ?_) rfl (by kernel_rfl) (fun _ _ _ h => h) (Or.inl ⟨by rfl, ?_⟩) (by assumption) ?_; rotate_left; (focus (intro w hSw; skip; go_simp; (try with_reducible rfl))); (try (refine wpAnyL_norm (by simp only [Act.put, List.setIfInBounds_toArray, List.set_cons_zero, List.set_cons_succ]; rfl) ?_))
          refine wpAnyL_take (i := 17) (v := ?_) rfl (by kernel_rfl) (fun _ _ _ h => h) (Or.inl ⟨by rfl, ?_⟩) (by assumption) ?_; rotate_left; (focus (intro w hSw; (have cc := HC0.out _ hSw); go_simp; (try with_reducible rfl))); (try (refine wpAnyL_norm (by simp only [Act.put, List.setIfInBounds_toArray, List.set_cons_zero, List.set_cons_succ]; rfl) ?_))
          refine wpAnyL_take (i := 18) (v := ?_) rfl (by kernel_rfl) (fun _ _ _ h => h) (Or.inl ⟨by rfl, ?_⟩) (by assumption) ?_; rotate_left; (focus (intro w hSw; skip; go_simp; (try with_reducible rfl))); (try (refine wpAnyL_norm (by simp only [Act.put, List.setIfInBounds_toArray, List.set_cons_zero, List.set_cons_succ]; rfl) ?_))
          refine wpAnyL_take (i := 19) (v := ?_) rfl (by kernel_rfl) (fun _ _ _ h => h) (Or.inl ⟨by rfl, ?_⟩) (by assumption) ?_; rotate_left; (focus (intro w hSw; skip; go_simp; (try with_reducible rfl))); (try (refine wpAnyL_norm (by simp only [Act.put, List.setIfInBounds_toArray, List.set_cons_zero, List.set_cons_succ]; rfl) ?_))
          refine wpAnyL_take (i := 20) (v := ?_) rfl (by kernel_rfl) (fun _ _ _ h => h) (Or.inl ⟨by rfl, ?_⟩) (by assumption) ?_; rotate_left; (focus (intro w hSw; skip; go_simp; (try with_reducible rfl))); (try (refine wpAnyL_norm (by simp only [Act.put, List.setIfInBounds_toArray, List.set_cons_zero, List.set_cons_succ]; rfl) ?_))
          refine wpAnyL_take (i := 21) (v := ?_) rfl (by kernel_rfl) (fun _ _ _ h => h) (Or.inl ⟨by rfl, ?_⟩) (by assumption) ?_; rotate_left; (focus (intro w hSw; skip; go_simp; (try with_reducible rfl))); (try (refine wpAnyL_norm (by simp only [Act.put, List.setIfInBounds_toArray, List.set_cons_zero, List.set_cons_succ]; rfl) ?_))
          refine wpAnyL_take (i := 22) rfl (by kernel_rfl) (fun _ _ _ h => h) (yields_load_at 38 (.tmp 77) rfl ⟨b, off + k * 9 + 1, none⟩ rfl c.l _ (fun W h j v hv => by
            rw [Go.WideShapes.add_plain, show off + k * 9 + 1 + j = off + (k * 9 + (j + 1)) by omega]
            exact HC.out W h j v hv) Try.underlying38 rfl infoCapS rfl) (by assumption) ?_; (try (refine wpAnyL_norm (by simp only [Act.put, List.setIfInBounds_toArray, List.set_cons_zero, List.set_cons_succ]; rfl) ?_))
          refine wpAnyL_ready (rs := [11]) (by kernel_rfl) (by simp) ?_; refine AllReadyL.cons rfl (fun K hK => ?_) AllReadyL.nil
          go_simp
          refine (CSA.out _ S2.out.A).mono ?_
          rintro e w5 ⟨rfl, hA5, hf5⟩
          replace S2 := Lib.hid (S2.out.stA hA5 hf5)
          refine hK.out _ _ (fun _ => S2.out.fr) (fun hHeld' => ?_); have hHeld := hHeld' (by decide); clear hHeld' hK K; (try (refine wpAnyL_norm (by simp only [Act.put, List.setIfInBounds_toArray, List.set_cons_zero, List.set_cons_succ]; rfl) ?_))
          refine wpAnyL_ready (rs := [23]) (by kernel_rfl) (by simp) ?_; refine AllReadyL.cons rfl (fun K hK => ?_) AllReadyL.nil
          go_simp
          refine (CSR.out _ S2.out.R).mono ?_
          rintro e w6 ⟨rfl, hA6, hf6⟩
          have S3 := Lib.hid (S2.out.stR hA6 hf6)
          refine hK.out _ _ (fun _ => S3.out.fr) (fun hHeld' => ?_); have hHeld := hHeld' (by decide); clear hHeld' hK K; (try (refine wpAnyL_norm (by simp only [Act.put, List.setIfInBounds_toArray, List.set_cons_zero, List.set_cons_succ]; rfl) ?_))
          refine wpAnyL_take (i := 24) (v := ?_) rfl (by kernel_rfl) (fun _ _ _ h => h) (Or.inl ⟨by rfl, ?_⟩) (by assumption) ?_; rotate_left; (focus (intro w hSw; skip; go_simp; (try with_reducible rfl))); (try (refine wpAnyL_norm (by simp only [Act.put, List.setIfInBounds_toArray, List.set_cons_zero, List.set_cons_succ]; rfl) ?_))
          refine wpAnyL_done (by kernel_rfl) ?_ _
          clear CSA CSR hA5 hf5 hA6 hf6 hHeld S2 S1
          go_wp2_with fail
          go_roundw
          case rel => exact ⟨k + 1, scL bs a c, scF bs f a c, by omega, by go_num, by rw [HSL.out, HBL.out], S3.out⟩
          case measure => simp [intOf]; omega
        · have hd : decide ((k : Int) < (len1 : Int)) = true := by simpa using h5
          go_wp2_with fail
          go_meet
          exact ⟨bs, f, HBL.out, S1.out⟩
      · go_wp2_with fail
        go_meet
        exact ⟨bs, f, HBL.out, S1.out⟩
  case rest =>
    clear S0 HL0
    obtain ⟨bs, f, hbl, hs0⟩ := hcut
    rename World => wx
    have S1 := Lib.hid hs0
    have HBL := Lib.hid hbl
    clear hs0 hbl
    have hsub : sub bs 0 4096 = bs := by unfold sub; rw [List.drop_zero, List.take_of_length_le (by rw [HBL.out]; exact Nat.le_refl _)]
    have HRD := Lib.hid fun W f (hA : Ar W ap p g bg cap bs f) => (show Calls Try.prog 18 #[.pointer (some ⟨ap, 0, none⟩), .int .u32 0, .int .i64 4096] W fun e w' => e = .returned (.tuple #[strV bs, .bool true]) ∧ W = w' from by
      have := aread_b W ap p g bg cap bs f hA 0 (by omega) ((4096 : Nat) : Int) (by omega) (by omega)
      rw [thB_nat, HBL.out, decide_eq_true (show 0 + 4096 ≤ 4096 by omega), if_pos rfl, Int.toNat_natCast, hsub] at this
      exact this)
    have hsz : (BS bs).size = 4096 := by rw [BS_size, HBL.out]
    unfold strV at HRD
    obtain ⟨SS, hSS⟩ : ∃ S, BS bs = S := ⟨_, rfl⟩
    rw [hSS] at HRD hsz
    have hszi : (SS.size : Int) = 4096 := by omega
    clear hSS hsub hsz
    go_wp2_with fail
    refine (HRD.out _ _ S1.out.A).mono ?_
    rintro e w' ⟨rfl, rfl⟩
    go_upto_block 2 with (fail)
    go_cut [16] (fun _ wy => ∃ f : Nat → Bool, Sp w wy B K pp hs ap p g bg cap bs f r bb tb cb ct bs f q8 (.slice av 256 cv) F)
    case first =>
      go_wp2_with fail
      go_loopw [16] (fun i wr => ∃ (k : Nat) (f : Nat → Bool), k ≤ len2 ∧ i = .int .i64 k ∧ Sp w wr B K pp hs ap p g bg cap bs f r bb tb cb ct bs f q8 (.slice av 256 cv) F) (fun i _ => len2 - (intOf i).toNat)
      case atStart => exact ⟨0, f, by omega, rfl, S1.out⟩
      case round =>
        clear S1
        obtain ⟨k, f, hk, rfl, hs0⟩ := hrel
        have S1 := Lib.hid hs0
        clear hs0
        by_cases h5 : k < len2
        · by_cases h6 : k < 30
          · obtain ⟨-, hzl, hwf, hzc⟩ := HZ.out
            obtain ⟨b, off, rfl, hb, hcc⟩ := hzc.resolve_left (by omega)
            have hpc := hcc k h5
            obtain ⟨pg, hpg⟩ : ∃ x, z2.getD k 0 = x := ⟨_, rfl⟩
            rw [hpg] at hpc
            have HC0 := Lib.hid (fun W (hW : Fr [] w W) => (hW.cell (a := ⟨b, off + k, none⟩) hb (by simp)).trans hpc)
            have S2 := Lib.hid (S1.out.fr0 (Fr.refl [] wr).drew)
            have CGA := Lib.hid fun W (h : Sp w W B K pp hs ap p g bg cap bs f r bb tb cb ct bs f q8 (.slice av 256 cv) F) => spage_any ap p g bg cap bs f h.A h.H h.hB h.hg.1 pg
            have CGR := Lib.hid fun W f' (h : Sp w W B K pp hs ap p g bg cap bs f' r bb tb cb ct bs f q8 (.slice av 256 cv) F) => r17page_any W r bb tb cb ct bs f h.R (by rw [HBL.out]) (.slice av 256 cv) 256 F h.V (by omega) (fun x hx => by have := h.vB x hx; have := h.hg; omega) pg
            rw [HHS.out] at CGR
            obtain ⟨f', hf'⟩ : ∃ f', pgT bs hs f (tgP bs.length f pg) = f' := ⟨_, rfl⟩
            obtain ⟨N, hN⟩ : ∃ N, pgN bs hs (tgP bs.length f pg) = N := ⟨_, rfl⟩
            rw [hf', hN] at CGA CGR
            clear hf' hN hpg hpc hcc hzc hwf hzl
            go_wp2_with fail
            refine wp_region_L (fun W => Fr [] w W ∧ At W q8 53 #[.slice av 256 cv]) [] (by kernel_rfl) ⟨S1.out.fr.drew, S2.out.P⟩ (fun hHeld => ?_)
            refine wpAnyL_take (i := 0) (v := ?_) rfl (by kernel_rfl) (fun _ _ _ h => h) (Or.inl ⟨by rfl, ?_⟩) (by assumption) ?_; rotate_left; (focus (intro w hSw; skip; go_simp; (try with_reducible rfl))); (try (refine wpAnyL_norm (by simp only [Act.put, List.setIfInBounds_toArray, List.set_cons_zero, List.set_cons_succ]; rfl) ?_))
            refine wpAnyL_take (i := 1) (v := ?_) rfl (by kernel_rfl) (fun _ _ _ h => h) (Or.inl ⟨by rfl, ?_⟩) (by assumption) ?_; rotate_left; (focus (intro w hSw; skip; go_simp; (try with_reducible rfl))); (try (refine wpAnyL_norm (by simp only [Act.put, List.setIfInBounds_toArray, List.set_cons_zero, List.set_cons_succ]; rfl) ?_))
            refine wpAnyL_take (i := 2) (v := ?_) rfl (by kernel_rfl) (fun _ _ _ h => h) (Or.inl ⟨by rfl, ?_⟩) (by assumption) ?_; rotate_left; (focus (intro w hSw; skip; go_simp; (try with_reducible rfl))); (try (refine wpAnyL_norm (by simp only [Act.put, List.setIfInBounds_toArray, List.set_cons_zero, List.set_cons_succ]; rfl) ?_))
            refine wpAnyL_take (i := 3) (v := ?_) rfl (by kernel_rfl) (fun _ _ _ h => h) (Or.inl ⟨by rfl, ?_⟩) (by assumption) ?_; rotate_left; (focus (intro w hSw; skip; go_simp; (try with_reducible rfl))); (try (refine wpAnyL_norm (by simp only [Act.put, List.setIfInBounds_toArray, List.set_cons_zero, List.set_cons_succ]; rfl) ?_))
            refine wpAnyL_take (i := 4) (v := ?_) rfl (by kernel_rfl) (fun _ _ _ h => h) (Or.inl ⟨by rfl, ?_⟩) (by assumption) ?_; rotate_left; (focus (intro w hSw; (have cc := HC0.out _ hSw.1); go_simp; (try with_reducible rfl))); (try (refine wpAnyL_norm (by simp only [Act.put, List.setIfInBounds_toArray, List.set_cons_zero, List.set_cons_succ]; rfl) ?_))
            refine wpAnyL_take (i := 5) (v := ?_) rfl (by kernel_rfl) (fun _ _ _ h => h) (Or.inl ⟨by rfl, ?_⟩) (by assumption) ?_; rotate_left; (focus (intro w hSw; skip; go_simp; (try with_reducible rfl))); (try (refine wpAnyL_norm (by simp only [Act.put, List.setIfInBounds_toArray, List.set_cons_zero, List.set_cons_succ]; rfl) ?_))
            refine wpAnyL_take (i := 7) (v := ?_) rfl (by kernel_rfl) (fun _ _ _ h => h) (Or.inl ⟨by rfl, ?_⟩) (by assumption) ?_; rotate_left; (focus (intro w hSw; skip; go_simp; (try with_reducible rfl))); (try (refine wpAnyL_norm (by simp only [Act.put, List.setIfInBounds_toArray, List.set_cons_zero, List.set_cons_succ]; rfl) ?_))
            refine wpAnyL_take (i := 8) (v := ?_) rfl (by kernel_rfl) (fun _ _ _ h => h) (Or.inl ⟨by rfl, ?_⟩) (by assumption) ?_; rotate_left; (focus (intro w hSw; skip; go_simp; (try with_reducible rfl))); (try (refine wpAnyL_norm (by simp only [Act.put, List.setIfInBounds_toArray, List.set_cons_zero, List.set_cons_succ]; rfl) ?_))
            refine wpAnyL_take (i := 9) (v := ?_) rfl (by kernel_rfl) (fun _ _ _ h => h) (Or.inl ⟨by rfl, ?_⟩) (by assumption) ?_; rotate_left; (focus (intro w hSw; skip; go_simp; (try with_reducible rfl))); (try (refine wpAnyL_norm (by simp only [Act.put, List.setIfInBounds_toArray, List.set_cons_zero, List.set_cons_succ]; rfl) ?_))
            refine wpAnyL_take (i := 10) (v := ?_) rfl (by kernel_rfl) (fun _ _ _ h => h) (Or.inl ⟨by rfl, ?_⟩) (by assumption) ?_; rotate_left; (focus (intro w hSw; skip; go_simp; (try with_reducible rfl))); (try (refine wpAnyL_norm (by simp only [Act.put, List.setIfInBounds_toArray, List.set_cons_zero, List.set_cons_succ]; rfl) ?_))
            refine wpAnyL_take (i := 11) (v := ?_) rfl (by kernel_rfl) (fun _ _ _ h => h) (Or.inl ⟨by rfl, ?_⟩) (by assumption) ?_; rotate_left; (focus (intro w hSw; (have cc := HC0.out _ hSw.1); go_simp; (try with_reducible rfl))); (try (refine wpAnyL_norm (by simp only [Act.put, List.setIfInBounds_toArray, List.set_cons_zero, List.set_cons_succ]; rfl) ?_))
            refine wpAnyL_take (i := 12) rfl (by kernel_rfl) (fun _ _ _ h => h) (yields_load_at 53 (.tmp 8) rfl ⟨q8, 0, none⟩ rfl [.slice av 256 cv] _ (fun W h j v hv => by
              rw [Go.WideShapes.add_plain, h.2.cell, Nat.zero_add]
              simpa using hv) Try.underlying53 rfl (by kernel_rfl) rfl) (by assumption) ?_; (try (refine wpAnyL_norm (by simp only [Act.put, List.setIfInBounds_toArray, List.set_cons_zero, List.set_cons_succ]; rfl) ?_))
            refine wpAnyL_ready (rs := [6]) (by kernel_rfl) (by simp) ?_; refine AllReadyL.cons rfl (fun K hK => ?_) AllReadyL.nil
            go_simp
            refine (CGA.out _ S2.out).mono ?_
            rintro e w5 ⟨rfl, hA5, hf5⟩
            have S3 := Lib.hid (S2.out.stA hA5 (hf5.more (fun x hx => .inl (by simp at hx; simp [hx]))))
            refine hK.out _ _ (fun _ => ⟨S3.out.fr, S3.out.P⟩) (fun hHeld' => ?_); have hHeld := hHeld' (by decide); clear hHeld' hK K; (try (refine wpAnyL_norm (by simp only [Act.put, List.setIfInBounds_toArray, List.set_cons_zero, List.set_cons_succ]; rfl) ?_))
            refine wpAnyL_ready (rs := [13]) (by kernel_rfl) (by simp) ?_; refine AllReadyL.cons rfl (fun K hK => ?_) AllReadyL.nil
            go_simp
            refine (CGR.out _ _ S3.out).mono ?_
            rintro e w6 ⟨rfl, hA6, hf6⟩
            have S4 := Lib.hid (S3.out.stR hA6 (hf6.more (fun x hx => .inl (by simp at hx; simp [hx]))))
            refine hK.out _ _ (fun _ => ⟨S4.out.fr, S4.out.P⟩) (fun hHeld' => ?_); have hHeld := hHeld' (by decide); clear hHeld' hK K; (try (refine wpAnyL_norm (by simp only [Act.put, List.setIfInBounds_toArray, List.set_cons_zero, List.set_cons_succ]; rfl) ?_))
            refine wpAnyL_take (i := 14) (v := ?_) rfl (by kernel_rfl) (fun _ _ _ h => h) (Or.inl ⟨by rfl, ?_⟩) (by assumption) ?_; rotate_left; (focus (intro w hSw; skip; go_simp; (try with_reducible rfl))); (try (refine wpAnyL_norm (by simp only [Act.put, List.setIfInBounds_toArray, List.set_cons_zero, List.set_cons_succ]; rfl) ?_))
            refine wpAnyL_done (by kernel_rfl) ?_ _
            clear CGA CGR hA5 hf5 hA6 hf6 hHeld S2 S1 S3
            go_wp2_with fail
            go_roundw
            case rel => exact ⟨k + 1, f', by omega, by go_num, S4.out⟩
            case measure => simp [intOf]; omega
          · have hd : decide ((k : Int) < (len2 : Int)) = true := by simpa using h5
            go_wp2_with fail
            go_meet
            exact ⟨f, S1.out⟩
        · go_wp2_with fail
          go_meet
          exact ⟨f, S1.out⟩
    case rest =>
      clear S1
      obtain ⟨f, hs0⟩ := hcut
      rename World => wy
      have S1 := Lib.hid hs0
      clear hs0
      go_wp2_with fail
      refine (HRD.out _ _ S1.out.A).mono ?_
      rintro e w' ⟨rfl, rfl⟩
      go_wp2_with fail
      go_loopw [19] (fun i wr => ∃ (k : Nat), k ≤ 16 ∧ i = .int .i64 k ∧ Sp w wr B K pp hs ap p g bg cap bs f r bb tb cb ct bs f q8 (.slice av 256 cv) F) (fun i _ => 16 - (intOf i).toNat)
      case atStart => exact ⟨0, by omega, rfl, S1.out⟩
      case round =>
        clear S1
        obtain ⟨k, hk, rfl, hs0⟩ := hrel
        have S1 := Lib.hid hs0
        clear hs0
        by_cases h7 : k < 16
        · have CTA := Lib.hid (atagged_any _ ap p g bg cap bs f S1.out.A (k : Int))
          have CTR := Lib.hid fun W (h : Sp w W B K pp hs ap p g bg cap bs f r bb tb cb ct bs f q8 (.slice av 256 cv) F) => rtagged_any W r bb tb cb ct bs f h.R (by rw [HBL.out]) (k : Int)
          obtain ⟨l, hl⟩ : ∃ l, tgP bs.length f k = l := ⟨_, rfl⟩
          rw [hl] at CTA CTR
          have hll : l.length ≤ 16 := by rw [← hl]; exact tgP_len _ _ _
          obtain ⟨n, hn⟩ : ∃ n, l.length = n := ⟨_, rfl⟩
          rw [hn] at CTA CTR hll
          have HN := Lib.hid hn
          clear hl hn
          go_wp2_with fail
          refine (CTA.out).mono ?_
          rintro e w5 ⟨v1, rfl, ho1, hf5⟩
          have S5 := Lib.hid (S1.out.fr0 hf5)
          obtain ⟨va1, vc1, rfl, -⟩ := own_slice ho1
          have O1 := Lib.hid ho1
          clear ho1 hf5 CTA S1
          go_wp2_with fail
          refine (CTR.out _ S5.out).mono ?_
          rintro e w6 ⟨v2, rfl, ho2, hf6⟩
          have S6 := Lib.hid (S5.out.fr0 hf6)
          obtain ⟨va2, vc2, rfl, -⟩ := own_slice ho2
          have O2 := Lib.hid ho2
          replace O1 := Lib.hid (own_fr0 O1.out hf6)
          clear ho2 hf6 CTR S5
          go_wp2_with fail
          go_loopw [22] (fun i wq => ∃ j : Nat, j ≤ n ∧ i = .int .i64 j ∧ Fr [] w6 wq) (fun i _ => n - (intOf i).toNat)
          case atStart => exact ⟨0, by omega, rfl, Fr.refl _ _⟩
          case round =>
            obtain ⟨j, hj, rfl, hf⟩ := hrel
            rename World => wq
            have FQ := Lib.hid hf
            clear hf
            by_cases h8 : j < n
            · obtain ⟨a, hka⟩ : ∃ a, l[j]? = some a := ⟨_, List.getElem?_eq_getElem (by rw [HN.out]; exact h8)⟩
              obtain ⟨g1, c1, e1, -, -, hg1, hc1, -⟩ := own_open O1.out (by omega)
              obtain ⟨g2, c2, e2, -, -, hg2, hc2, -⟩ := own_open O2.out (by omega)
              injection e1 with x1 x2 x3
              injection e2 with y1 y2 y3
              subst x1 x3 y1 y3
              have d1 := hc1 j h8
              have d2 := hc2 j h8
              rw [u32s_get l j a hka] at d1 d2
              have D1 := Lib.hid (fun W (hW : Fr [] wq W) => (((FQ.out.trans0 hW).cell (a := ⟨g1, j, none⟩) hg1 (by simp)).trans d1))
              have D2 := Lib.hid (fun W (hW : Fr [] wq W) => (((FQ.out.trans0 hW).cell (a := ⟨g2, j, none⟩) hg2 (by simp)).trans d2))
              have hji : (j : Int) < n := by omega
              clear hka hc1 hc2 d1 d2
              go_wp2_with fail
              refine wp_region_L (fun W => Fr [] wq W) [] (by kernel_rfl) ((Fr.refl _ _).drew) (fun hHeld => ?_)
              refine wpAnyL_take (i := 0) (v := ?_) rfl (by kernel_rfl) (fun _ _ _ h => h) (Or.inl ⟨by rfl, ?_⟩) (by assumption) ?_; rotate_left; (focus (intro w hSw; skip; go_simp; (try with_reducible rfl))); (try (refine wpAnyL_norm (by simp only [Act.put, List.setIfInBounds_toArray, List.set_cons_zero, List.set_cons_succ]; rfl) ?_))
              refine wpAnyL_take (i := 1) (v := ?_) rfl (by kernel_rfl) (fun _ _ _ h => h) (Or.inl ⟨by rfl, ?_⟩) (by assumption) ?_; rotate_left; (focus (intro w hSw; skip; go_simp; (try with_reducible rfl))); (try (refine wpAnyL_norm (by simp only [Act.put, List.setIfInBounds_toArray, List.set_cons_zero, List.set_cons_succ]; rfl) ?_))
              refine wpAnyL_take (i := 2) (v := ?_) rfl (by kernel_rfl) (fun _ _ _ h => h) (Or.inl ⟨by rfl, ?_⟩) (by assumption) ?_; rotate_left; (focus (intro w hSw; skip; go_simp; (try with_reducible rfl))); (try (refine wpAnyL_norm (by simp only [Act.put, List.setIfInBounds_toArray, List.set_cons_zero, List.set_cons_succ]; rfl) ?_))
              refine wpAnyL_take (i := 3) (v := ?_) rfl (by kernel_rfl) (fun _ _ _ h => h) (Or.inl ⟨by rfl, ?_⟩) (by assumption) ?_; rotate_left; (focus (intro w hSw; (have cc := D1.out _ hSw); go_simp; (try with_reducible rfl))); (try (refine wpAnyL_norm (by simp only [Act.put, List.setIfInBounds_toArray, List.set_cons_zero, List.set_cons_succ]; rfl) ?_))
              refine wpAnyL_take (i := 4) (v := ?_) rfl (by kernel_rfl) (fun _ _ _ h => h) (Or.inl ⟨by rfl, ?_⟩) (by assumption) ?_; rotate_left; (focus (intro w hSw; skip; go_simp; (try with_reducible rfl))); (try (refine wpAnyL_norm (by simp only [Act.put, List.setIfInBounds_toArray, List.set_cons_zero, List.set_cons_succ]; rfl) ?_))
              refine wpAnyL_take (i := 5) (v := ?_) rfl (by kernel_rfl) (fun _ _ _ h => h) (Or.inl ⟨by rfl, ?_⟩) (by assumption) ?_; rotate_left; (focus (intro w hSw; skip; go_simp; (try with_reducible rfl))); (try (refine wpAnyL_norm (by simp only [Act.put, List.setIfInBounds_toArray, List.set_cons_zero, List.set_cons_succ]; rfl) ?_))
              refine wpAnyL_take (i := 6) (v := ?_) rfl (by kernel_rfl) (fun _ _ _ h => h) (Or.inl ⟨by rfl, ?_⟩) (by assumption) ?_; rotate_left; (focus (intro w hSw; skip; go_simp; (try with_reducible rfl))); (try (refine wpAnyL_norm (by simp only [Act.put, List.setIfInBounds_toArray, List.set_cons_zero, List.set_cons_succ]; rfl) ?_))
              refine wpAnyL_take (i := 7) (v := ?_) rfl (by kernel_rfl) (fun _ _ _ h => h) (Or.inl ⟨by rfl, ?_⟩) (by assumption) ?_; rotate_left; (focus (intro w hSw; (have cc := D2.out _ hSw); go_simp; (try with_reducible rfl))); (try (refine wpAnyL_norm (by simp only [Act.put, List.setIfInBounds_toArray, List.set_cons_zero, List.set_cons_succ]; rfl) ?_))
              refine wpAnyL_take (i := 8) (v := ?_) rfl (by kernel_rfl) (fun _ _ _ h => h) (Or.inl ⟨by rfl, ?_⟩) (by assumption) ?_; rotate_left; (focus (intro w hSw; skip; go_simp; (try with_reducible rfl))); (try (refine wpAnyL_norm (by simp only [Act.put, List.setIfInBounds_toArray, List.set_cons_zero, List.set_cons_succ]; rfl) ?_))
              refine wpAnyL_done (by kernel_rfl) ?_ _
              have F9 := Lib.hid (FQ.out.trans0 hHeld)
              clear hHeld D1 D2
              go_wp2_with fail
              go_roundw
              case rel => exact ⟨j + 1, by omega, by go_num, F9.out⟩
              case measure => simp [intOf]; omega
            · have S7 := Lib.hid (S6.out.fr0 FQ.out)
              clear FQ S6 O1 O2
              go_wp2_with fail
              go_roundw
              case rel => exact ⟨k + 1, by omega, by go_num, S7.out⟩
              case measure => simp [intOf]; omega
        · go_wp2_with fail
          refine (works_any _).mono ?_
          rintro e w9 ⟨rfl, hf9⟩
          go_wp2_with fail
          go_ret
          exact ⟨rfl, S1.out.fr.trans0 hf9⟩
theorem laidOut : laidOutB Try.prog = true := by kernel_rfl
set_option maxRecDepth 100000 in
theorem lifted (os : Os) (started : os.Started) (H : Type) (enc : TypeId × Value → H) :
    ReturnsInHanded {} Try.checked os 4 .any (Rows.scanPagesSpec.pre6 enc Try.prog Try.f4 Rows.scanPagesRow.domain false) (Rows.scanPagesSpec.post enc Try.prog Try.f4 false true false false) := by
  refine returnsInHanded_of_change (C := Try.checked) own started (by kernel_rfl) Try.func4
    (ChangeSpec.witness6 (enc := enc) (C := Try.checked) false ⟨#[], #[.slice none 0 0, .slice none 0 0, .slice none 0 0], []⟩ 8 (by kernel_rfl) (by kernel_rfl) (by kernel_rfl) (by kernel_rfl)) ?_
  intro W base args ds gs before hval0 hW hcnd _
  have hval : ∀ (j : Nat) t v, Try.f4.params[j]? = some t → args[j]? = some v → Value.okWide Try.prog W .any base t v := hval0
  have hW' := hW
  obtain ⟨p, q, hA0, hV, rfl, hfz, hnd⟩ := hW
  have hA : DataW.TrodAll enc Try.prog W 0 (fun _ => true) true Try.f4.params.toList args.toList ds p := hA0
  rw [Try.params4] at hA hval
  obtain ⟨v0, vs0, d0, ds0, p0, q0, hargs, rfl, rfl, h0, r0⟩ := trodAll_cons hA
  obtain ⟨v1, vs1, d1, ds1, p1, q1, rfl, rfl, rfl, h1, r1⟩ := trodAll_cons r0
  obtain ⟨v2, vs2, d2, ds2, p2, q2, rfl, rfl, rfl, h2, r2⟩ := trodAll_cons r1
  obtain ⟨rfl, rfl, rfl⟩ := trodAll_nil r2
  obtain rfl : args = #[v0, v1, v2] := by cases args; simp_all
  obtain ⟨rfl, rfl⟩ := trodVars_none hV
  obtain ⟨a0, len0, cap0, rfl⟩ := okWide_slice Try.underlying48 (hval 0 48 v0 rfl rfl)
  have k0 := h0
  have lt0 : ∀ x ∈ p0, x.block < W.heap.size := by obtain ⟨m, hm⟩ := k0; exact DataW.trod_lt m _ _ _ hm
  have w0 : Elems W a0 len0 [.i .u32, .i .u32] := by
    obtain ⟨fuel, hf⟩ := h0
    exact open_elems (n := 20) Try.underlying48 (by kernel_rfl : flat Try.prog 20 70 = some [.i .u32, .i .u32]) (by kernel_rfl) (by decide) hf
  obtain ⟨a1, len1, cap1, rfl⟩ := okWide_slice Try.underlying49 (hval 1 49 v1 rfl rfl)
  have k1 := h1
  have lt1 : ∀ x ∈ p1, x.block < W.heap.size := by obtain ⟨m, hm⟩ := k1; exact DataW.trod_lt m _ _ _ hm
  have w1 : Elems W a1 len1 [.i .u32, .i .u32, .i .u8, .i .u16, .i .u16, .i .u16, .i .u16, .i .u32, .b] := by
    obtain ⟨fuel, hf⟩ := h1
    exact open_elems (n := 20) Try.underlying49 (by kernel_rfl : flat Try.prog 20 57 = some [.i .u32, .i .u32, .i .u8, .i .u16, .i .u16, .i .u16, .i .u16, .i .u32, .b]) (by kernel_rfl) (by decide) hf
  obtain ⟨a2, len2, cap2, rfl⟩ := okWide_slice Try.underlying50 (hval 2 50 v2 rfl rfl)
  have k2 := h2
  have lt2 : ∀ x ∈ p2, x.block < W.heap.size := by obtain ⟨m, hm⟩ := k2; exact DataW.trod_lt m _ _ _ hm
  obtain ⟨z2, w2⟩ : ∃ zs, Ints .i64 W a2 len2 zs := by
    obtain ⟨fuel, hf⟩ := h2
    rcases open_ints Try.underlying50 Try.underlying3 (by kernel_rfl) hf with ⟨hcs, _⟩ | ⟨x, l, c, zs, hcs, _, hl, hm, hz, _, hcell, hwz⟩
    · simp [Value.cells] at hcs
      obtain ⟨rfl, rfl, rfl⟩ := hcs
      exact ⟨[], Ints.nil _⟩
    · simp [Value.cells] at hcs
      obtain ⟨rfl, rfl, rfl⟩ := hcs
      exact ⟨zs.take len2, Ints.of hl hm (by simpa using hz) hcell hwz⟩
  clear hA0 hval0
  refine (walk a0 len0 cap0 a1 len1 cap1 a2 len2 cap2 z2 W w0 w1 w2).mono fun e W' ⟨he, hg⟩ => ?_
  subst he
  have bel := hg.below
  exact ⟨_, rfl, _, _, _, [], _, [], hW', trodAll_mk1 (shut_bool Try.underlying4 _), (trodAll_cons_mk (Below.trod laidOut (by kernel_rfl) (of_decide_eq_true (by kernel_rfl)) k0 bel lt0) (trodAll_cons_mk (Below.trod laidOut (by kernel_rfl) (of_decide_eq_true (by kernel_rfl)) k1 bel lt1) (trodAll_cons_mk (Below.trod laidOut (by kernel_rfl) (of_decide_eq_true (by kernel_rfl)) k2 bel lt2) trodAll_mk0))), rfl, bel.frame _, fun h => by cases h⟩
theorem over : Rows.scanPagesRow.holds Try.pinned (OpenSpec.ofChange Rows.scanPagesSpec) :=
  OpenClaim.holds_of_wide 4 Try.f4 rfl rfl rfl rfl rfl rfl rfl ⟨rfl, rfl, rfl, rfl, rfl⟩ rfl rfl rfl rfl rfl (by kernel_rfl) Try.func4 (by kernel_rfl)
    (of_decide_eq_true (by kernel_rfl)) (by unfold Func.isWrapper; first | (rw [if_pos (by decide +kernel)]; kernel_rfl) | (rw [if_neg (by decide +kernel)]; exact ⟨rfl, rfl⟩))
    (fun os started H enc _ => lifted os started H enc)
/-- The statement, proved. -/
theorem proved : Rows.ScanPagesSaid :=
  over
end scanPages
end Go.Proofs.Ytilgklpponaoeaa
