/-
  ArenaData: no store of bytes, of any width, sets a tag; and it clears just those of the granules that it touches. No condition.
-/





import Derived.Test.YtfgmcoepldekaaaBoth
import Derived.Test.YtfgmcoepldekaaaWorks
import Derived.Test.YtfgmcoepldekaaaArgs
import Derived.Deep.CutBlock
import Derived.Deep.DeepCutAuto
import Derived.BigRegion
set_option linter.unusedVariables false
namespace Go.Proofs.Ytfgmcoepldekaaa
open Go.ChangeShapes Go.WideShapes Go.ChangeAt Go.RowKit
namespace arenaData
/-! ### tags behind a storing -/
theorem tags_cap (bs : List Nat) (f : Nat → Bool) (A : Nat) (c : Cp) (hl : bs.length = 4096) (h16 : A % 16 = 0) (hA : A < 4096) : scF bs f A c = fun j => if j = A / 16 then (c.v && soundB c) else f j := by
  have hw : whB bs.length A = true := by unfold whB; rw [hl, decide_eq_true h16, decide_eq_true (by omega)]; rfl
  unfold scF
  rw [if_pos hw]
  unfold stF upd
  funext j
  by_cases hj : j = A / 16
  · rw [if_pos hj, if_pos hj]
  · rw [if_neg hj, if_neg hj]
    unfold wrF
    rw [bytesC_len, if_pos (by omega), putF_get]
    have : ¬ (A / 16 ≤ j ∧ j ≤ (A + 16 - 1) / 16) := by omega
    by_cases h1 : A / 16 ≤ j
    · rw [decide_eq_true h1, decide_eq_false (by omega)]; simp
    · rw [decide_eq_false h1]; simp
theorem tags_num (bs : List Nat) (f : Nat → Bool) (a k v : Nat) (hl : bs.length = 4096) (hk : k = 1 ∨ k = 2 ∨ k = 4) (hf : a + k ≤ 4096) : wrF bs f a (le k v) = fun j => if j = (a + k - 1) / 16 then false else if j = a / 16 then false else f j := by
  unfold wrF
  rw [le_len, if_pos (by omega)]
  funext j
  rw [putF_get]
  by_cases h1 : j = (a + k - 1) / 16
  · rw [if_pos h1, decide_eq_true (by omega), decide_eq_true (by omega)]; simp
  · rw [if_neg h1]
    by_cases h2 : j = a / 16
    · rw [if_pos h2, decide_eq_true (by omega), decide_eq_true (by omega)]; simp
    · rw [if_neg h2]
      by_cases h3 : a / 16 ≤ j
      · rw [decide_eq_true h3, decide_eq_false (by omega)]; simp
      · rw [decide_eq_false h3]; simp
theorem tags_out (bs : List Nat) (f : Nat → Bool) (a : Nat) (l : List Nat) (h : ¬ a + l.length ≤ bs.length) : wrF bs f a l = f ∧ wrL bs a l = bs := by
  unfold wrF wrL
  rw [if_neg (fun x => h x.1), if_neg h]
  exact ⟨rfl, rfl⟩
theorem tagL_at (f : Nat → Bool) (K j m : Nat) (hj : j < m) (h : f (K + j) = true) : (tagL f K m)[(tagL f K j).length]? = some ((K + j) * 16) ∧ (tagL f K j).length < (tagL f K m).length := by
  obtain ⟨d, rfl⟩ : ∃ d, m = j + 1 + d := ⟨m - (j + 1), by omega⟩
  have hp : ∀ d, ∃ r, tagL f K (j + 1 + d) = tagL f K (j + 1) ++ r := fun d => by
    induction d with
    | zero => exact ⟨[], by simp⟩
    | succ d ih =>
      obtain ⟨r, hr⟩ := ih
      cases hx : f (K + (j + 1 + d))
      · exact ⟨r, by rw [show j + 1 + (d + 1) = (j + 1 + d) + 1 by omega, tagL_no f K _ hx, hr]⟩
      · exact ⟨r ++ [(K + (j + 1 + d)) * 16], by rw [show j + 1 + (d + 1) = (j + 1 + d) + 1 by omega, tagL_yes f K _ hx, hr, List.append_assoc]⟩
  obtain ⟨r, hr⟩ := hp d
  rw [hr, tagL_yes f K j h, List.append_assoc]
  constructor
  · rw [List.getElem?_append_right (Nat.le_refl _), Nat.sub_self]; rfl
  · simp
theorem u32s_get (l : List Nat) (i n : Nat) (h : l[i]? = some n) : (u32s l)[i]? = some (.int .u32 (n : Int)) := by unfold u32s; rw [List.getElem?_map, h]; rfl
def putC (a wd v : Nat) (c : Cp) : List Value := [.int .u16 a, .int .u8 wd, .int .u32 v] ++ c.l
theorem fitsPut {cs : List Value} (h : Fits [.i .u16, .i .u8, .i .u32, .i .u32, .i .u8, .i .u16, .i .u16, .i .u16, .i .u16, .i .u32, .b] cs) : ∃ (a wd v : Nat) (c : Cp), cs = putC a wd v c ∧ a < 65536 ∧ wd < 256 ∧ v < 4294967296 ∧ c.Ok := by
  obtain ⟨v0, c1, e0, ⟨z0, rfl, w0⟩, h1⟩ := h.cons
  obtain ⟨v1, c2, e1, ⟨z1, rfl, w1⟩, h2⟩ := h1.cons
  obtain ⟨v2, c3, e2, ⟨z2, rfl, w2⟩, h3⟩ := h2.cons
  obtain ⟨c, e3, hc⟩ := fitsC h3
  have b0 := bounds_u16 w0
  have b1 := bounds_u8 w1
  have b2 := bounds_u32 w2
  obtain ⟨n0, rfl⟩ := Int.eq_ofNat_of_zero_le b0.1
  obtain ⟨n1, rfl⟩ := Int.eq_ofNat_of_zero_le b1.1
  obtain ⟨n2, rfl⟩ := Int.eq_ofNat_of_zero_le b2.1
  exact ⟨n0, n1, n2, c, by rw [e0, e1, e2, e3]; rfl, by omega, by omega, by omega, hc⟩
theorem putC_len (a wd v : Nat) (c : Cp) : (putC a wd v c).length = 11 := rfl
theorem putC_one (a wd v : Nat) (c : Cp) : (putC a wd v c).toArray.all (·.oneCell') = true := by simp [putC, Cp.l, Value.oneCell']
theorem infoPut : (Try.prog.info? 32).map (·.size) = some 11 := by kernel_rfl
def noPut : List Value := putC 0 0 0 noC
set_option maxHeartbeats 4000000 in
set_option maxRecDepth 100000 in
theorem walk (x : Option Addr) (n lc : Nat) (w : World) (wE : Elems w x n [.i .u16, .i .u8, .i .u32, .i .u32, .i .u8, .i .u16, .i .u16, .i .u16, .i .u16, .i .u32, .b]) :
    Calls Try.prog 3 #[.slice x n lc] w fun e w' => e = .returned (.bool true) ∧ Fr [] w w' := by
  have HWE := Lib.hid wE
  have l0 : (List.replicate 4096 0).length = 4096 := List.length_replicate
  obtain ⟨B0, hB0⟩ : ∃ B, List.replicate 4096 0 = B := ⟨_, rfl⟩
  have CL := Lib.hid fun W => lmade_any W
  rw [hB0] at l0
  simp only [hB0] at CL
  have HL0 := Lib.hid l0
  have hzt : ∀ W : World, (zeroValue 26).run Try.prog W = .ok (.agg (batr 256 fun _ => false)) W := fun W => by kernel_rfl
  have HIP := Lib.hid infoPut
  obtain ⟨T, hT⟩ : ∃ T : (Nat → Bool) → Array Value, ∀ f, batr 256 f = T f := ⟨_, fun _ => rfl⟩
  have HTg := Lib.hid fun f k h => (hT f ▸ batr_get 256 f k h)
  have HTs := Lib.hid fun f i b => (show (T f).setIfInBounds i (.bool b) = T (fun j => if j = i then b else f j) by rw [← hT, ← hT]; exact batr_set 256 f i b)
  simp only [hT] at hzt
  clear hB0 l0 wE hT
  go_enter Try.func3, Try.ntmps3
  go_wp2_with fail
  refine (CL.out _).mono ?_
  rintro e w2 ⟨ap, p, g, bg, cap, rfl, h2, p1, p2, p3, p4, hf2⟩
  have A2 := Lib.hid h2
  have F2 := Lib.hid hf2
  clear h2 hf2 CL
  go_wp2_with fail
  refine (works_any _).mono ?_
  rintro e w3 ⟨rfl, hf3⟩
  have A3 := Lib.hid (A2.out.fr0 hf3)
  have F3 := Lib.hid (F2.out.trans0 hf3)
  clear hf3 A2 F2
  go_wp2_with fail
  have hga : Fr [] w3 (w3.alloc (.cells (T fun _ => false) 26)) := (by repeat (first | exact Fr.refl _ _ | assumption | refine Fr.trans0 ?_ (by assumption) | refine Fr.drewN ?_ _ | refine Fr.alloc ?_ _ | refine Fr.drew ?_))
  have aT := At.new w3 26 (T fun _ => false)
  have hl3 := A3.out.lt
  have hs3 := F3.out.size
  have A4 := Lib.hid (A3.out.fr0 hga)
  have F4 := Lib.hid (F3.out.trans0 hga)
  obtain ⟨tq, htq⟩ : ∃ q, w3.heap.size = q := ⟨_, rfl⟩
  rw [htq] at aT hl3 hs3 ⊢
  have T4 := Lib.hid aT
  clear hga aT htq A3 F3
  go_loopw [5] (fun i wr => ∃ (k : Nat) (bs : List Nat) (f : Nat → Bool), k ≤ 40 ∧ i = .int .i64 k ∧ Ar wr ap p g bg cap bs f ∧ bs.length = 4096 ∧ At wr tq 26 (T f) ∧ Fr [] w wr) (fun i _ => 40 - (intOf i).toNat)
  case atStart => exact ⟨0, B0, _, by omega, rfl, A4.out, HL0.out, T4.out, F4.out⟩
  case round =>
    clear A4 T4 F4
    obtain ⟨k, bs, f, hk, rfl, hA, hl, hT, hF⟩ := hrel
    have A := Lib.hid hA
    have HT := Lib.hid hT
    have F := Lib.hid hF
    have HL := Lib.hid hl
    have hsz := hF.size
    have htl := hT.lt
    clear hA hT hF hl
    by_cases hkn : k < n ∧ k < 40
    · obtain ⟨hk1, hk2⟩ := hkn
      obtain ⟨b, off, rfl, hbl, hE⟩ := HWE.out.2.resolve_left (by omega)
      obtain ⟨cs, hfit, hcs⟩ := hE k hk1
      obtain ⟨a, wd, v, c, rfl, ha, hwd, hv, hok⟩ := fitsPut hfit
      have HLD : Hid (∀ j u, (putC a wd v c)[j]? = some u → wr.cell? ((⟨b, off + k * 11, none⟩ : Addr).add j) = some u) := Lib.hid fun j u hu => by
        have hj : j < 11 := by have := (List.getElem?_eq_some_iff.1 hu).1; rwa [putC_len] at this
        rw [Go.WideShapes.add_plain, Nat.add_assoc]
        exact ((F.out.cell (a := ⟨b, off + (k * 11 + j), none⟩) hbl (by simp)).trans (hcs j (by simpa using hj))).trans hu
      clear hfit hcs hE
      have hkI : (k : Int) < 40 := by omega
      have HPO := Lib.hid (putC_one a wd v c)
      have HIP2 := Lib.hid (show (Try.prog.info? 32).map (·.size) = some (putC a wd v c).toArray.size from infoPut)
      go_upto_if 37 with (first
        | (refine wpList_load_at rfl 32 (.tmp 28) rfl ⟨b, off + k * 11, none⟩ rfl (putC a wd v c) _ HLD.out Try.underlying32 rfl HIP.out ?_)
        | (refine wpList_store_all rfl 32 (.tmp 6) (.tmp 29) rfl _ (putC a wd v c).toArray rfl rfl 32 noPut.toArray (At.nw rfl) HIP2.out rfl HPO.out ?_; intro w4 hA4 hF4; have e0 : w4.cell? ⟨wr.heap.size, 0, none⟩ = some (.int .u16 a) := hA4.cell 0; have e1 : w4.cell? ⟨wr.heap.size, 1, none⟩ = some (.int .u8 wd) := hA4.cell 1))
      have hga : Fr [] wr (wr.alloc (.cells noPut.toArray 32)) := (by repeat (first | exact Fr.refl _ _ | assumption | refine Fr.trans0 ?_ (by assumption) | refine Fr.drewN ?_ _ | refine Fr.alloc ?_ _ | refine Fr.drew ?_))
      have hAl := A.out.lt
      have A4 := Lib.hid ((A.out.fr0 hga).fr hF4 (by simp; omega) (by simp; omega) (by simp; omega) (by simp; omega))
      have T4 := Lib.hid ((HT.out.fr hga (by simp)).fr hF4 (by simp; omega))
      have F4 := Lib.hid ((F.out.trans0 hga).trans hF4 (by simp; omega))
      obtain ⟨q, hq⟩ : ∃ q, wr.heap.size = q := ⟨_, rfl⟩
      rw [hq] at hA4 hsz htl hAl e0 e1 ⊢
      have P4 := Lib.hid hA4
      clear hga hA4 hF4 hq A HT F HLD HPO HIP2
      go_cut [7] (fun s7 wx => ∃ (bs' : List Nat) (f' : Nat → Bool), Ar wx ap p g bg cap bs' f' ∧ bs'.length = 4096 ∧ At wx tq 26 (T f') ∧ Fr [] w wx)
      case first =>
        have hAl4 := A4.out.lt
        have htl4 := T4.out.lt
        have hne : tq ≠ ap ∧ tq ≠ p ∧ tq ≠ g ∧ tq ≠ bg := by
          obtain ⟨a1, a2, a3, a4, a5, a6, ⟨b1, b2, b3, x1, x2, b4, b5, b6, b7⟩, y, a8, a9, a10⟩ := A4.out
          exact ⟨T4.out.diff a6 (by decide), T4.out.diff b5 (by decide), T4.out.diff b6 (by decide), T4.out.diff a8 (by decide)⟩
        obtain ⟨ne1, ne2, ne3, ne4⟩ := hne
        by_cases h3 : wd % 4 = 3
        · obtain ⟨D, hD⟩ : ∃ D, a % 4200 / 16 = D := ⟨_, rfl⟩
          have hwI : (wd : Int) % 4 = 3 := by omega
          have hDI : (a : Int) % 4200 / 16 = (D : Int) := by omega
          have hD16 : (D : Int) * 16 / 16 = (D : Int) := by omega
          have hDb : D < 263 := by omega
          have hwD : IntKind.u32.wrap ((D : Int) * 16) = (D : Int) * 16 := by simp [IntKind.wrap, IntKind.signed, IntKind.bits]; omega
          have CS := astorec_b _ _ _ _ _ _ _ _ A4.out (D * 16) (by omega) c hok
          have CSd := Lib.hid fun W => sound_any W c hok
          have hll : (scL bs (D * 16) c).length = 4096 := by rw [scL_len]; exact HL.out
          obtain ⟨B, hB⟩ : ∃ B, whB 4096 (D * 16) = B := ⟨_, rfl⟩
          have hBd : B = decide (D < 256) := by
            rw [← hB]
            unfold whB
            rw [decide_eq_true (by omega), Bool.true_and, decide_eq_decide]
            omega
          have hBI : decide ((D : Int) * 16 < 4096) = B := by rw [hBd, decide_eq_decide]; omega
          have hBI2 : decide (D < 256) = B := hBd.symm
          have hBI3 : decide ((D : Int) < 256) = B := by rw [hBd, decide_eq_decide]; omega
          have HBd := Lib.hid hBd
          clear hBd
          rw [HL.out, hB, show ((D * 16 : Nat) : Int) = (D : Int) * 16 by omega] at CS
          have HCS := Lib.hid CS
          have HLL := Lib.hid hll
          have HCP : Hid (∀ (W : World), Fr [g, bg] w4 W → ∀ j u, c.l[j]? = some u → W.cell? ((⟨q, 3, none⟩ : Addr).add j) = some u) := Lib.hid fun W hW j u hu => by
            rw [Go.WideShapes.add_plain, (P4.out.fr hW (by simp; omega)).cell, List.getElem?_toArray]
            unfold putC
            rw [List.getElem?_append_right (by simp), show 3 + j - [Value.int .u16 (a : Int), .int .u8 (wd : Int), .int .u32 (v : Int)].length = j by simp]
            exact hu
          have HIC := Lib.hid (show (Try.prog.info? 30).map (·.size) = some c.l.length from by kernel_rfl)
          have HCC := Lib.hid (show c.l.toArray = c.cells from rfl)
          obtain ⟨sb, hsb⟩ : ∃ b, soundB c = b := ⟨_, rfl⟩
          have HSB := Lib.hid hsb
          rw [hsb] at CSd
          have hfrr := Lib.hid (Fr.refl [g, bg] w4)
          clear CS hll hsb
          go_wp2_with (refine wpList_load_at rfl 30 (.tmp 43) rfl ⟨q, 3, none⟩ rfl c.l _ (HCP.out _ hfrr.out) Try.underlying30 rfl HIC.out ?_; rw [HCC.out])
          refine HCS.out.mono ?_
          rintro e w5 ⟨rfl, h5, hf5⟩
          cases B
          · have A5 := Lib.hid h5
            have T5 := Lib.hid (T4.out.fr hf5 (by simp; omega))
            have F5 := Lib.hid (F4.out.trans hf5 (by simp; omega))
            have hsf : scF bs f (D * 16) c = f := by unfold scF; rw [HL.out, hB]; simp
            rw [hsf] at A5
            clear h5 hf5 HCS hB
            go_wp2_with fail
            go_meet
            exact ⟨_, f, A5.out, HLL.out, T5.out, F5.out⟩
          · have hD256 : D < 256 := by simpa using HBd.out.symm
            have htg := tags_cap bs f (D * 16) c HL.out (by omega) (by omega)
            rw [show D * 16 / 16 = D by omega, HSB.out] at htg
            rw [htg] at h5
            have A5 := Lib.hid h5
            have T5 := T4.out.fr hf5 (by simp; omega)
            have F5 := Lib.hid (F4.out.trans hf5 (by simp; omega))
            have HF5 := Lib.hid hf5
            have cd : w5.cell? ⟨tq, D, none⟩ = some (.bool (f D)) := (T5.cell D).trans (HTg.out f D hD256)
            have zd := T5.froz D
            have T5 := Lib.hid T5
            have cv : w5.cell? ⟨q, 10, none⟩ = some (.bool c.v) := (P4.out.fr hf5 (by simp; omega)).cell 10
            obtain ⟨vb, hvb⟩ : ∃ b, c.v = b := ⟨_, rfl⟩
            have HVB := Lib.hid hvb
            rw [hvb] at cv
            clear h5 hf5 HCS htg hB hvb
            cases vb
            · have T6 := T5.out.set D (.bool false)
              rw [HTs.out] at T6
              have T6 := Lib.hid T6
              rw [HVB.out, Bool.false_and] at A5
              go_wp2_with fail
              go_meet
              exact ⟨_, _, A5.out.fr ((Fr.refl [tq] _).set (.inl (by simp)) _) (by simp; omega) (by simp; omega) (by simp; omega) (by simp; omega), HLL.out, T6.out, F5.out.set (.inr (by simp; omega)) _⟩
            · rw [HVB.out, Bool.true_and] at A5
              go_wp2_with (refine wpList_load_at rfl 30 (.tmp 57) rfl ⟨q, 3, none⟩ rfl c.l _ (HCP.out _ HF5.out) Try.underlying30 rfl HIC.out ?_; rw [HCC.out])
              refine (CSd.out _).mono ?_
              rintro e w6 ⟨rfl, hf6⟩
              have A6 := Lib.hid (A5.out.fr0 hf6)
              have T6 := T5.out.fr hf6 (by simp)
              have F6 := Lib.hid (F5.out.trans0 hf6)
              have cd6 : w6.cell? ⟨tq, D, none⟩ = some (.bool (f D)) := (T6.cell D).trans (HTg.out f D hD256)
              have zd6 := T6.froz D
              have T7 := T6.set D (.bool sb)
              rw [HTs.out] at T7
              have T7 := Lib.hid T7
              clear hf6 T6 A5 T5 F5 cd zd cv
              go_wp2_with fail
              go_meet
              exact ⟨_, _, A6.out.fr ((Fr.refl [tq] _).set (.inl (by simp)) _) (by simp; omega) (by simp; omega) (by simp; omega) (by simp; omega), HLL.out, T7.out, F6.out.set (.inr (by simp; omega)) _⟩
        · rcases (show wd % 4 = 0 ∨ wd % 4 = 1 ∨ wd % 4 = 2 by omega) with hw | hw | hw
          · have hwI : (wd : Int) % 4 = 0 := by omega
            have CS := astore_any _ _ _ _ _ _ _ _ A4.out (a % 4200) (by omega) 1 v (by omega) hv
            have hll : (wrL bs (a % 4200) (le 1 v)).length = 4096 := by rw [wrL_len]; exact HL.out
            have e2 : w4.cell? ⟨q, 2, none⟩ = some (.int .u32 v) := P4.out.cell 2
            obtain ⟨B, hB⟩ : ∃ B, decide (a % 4200 + 1 ≤ 4096) = B := ⟨_, rfl⟩
            have hBI : decide ((a : Int) % 4200 + 1 ≤ 4096) = B := by rw [← hB, decide_eq_decide]; omega
            rw [HL.out, hB, show ((a % 4200 : Nat) : Int) = (a : Int) % 4200 by omega] at CS
            have HCS := Lib.hid CS
            have HLL := Lib.hid hll
            clear CS hll
            cases B
            · obtain ⟨t1, t2⟩ := tags_out bs f (a % 4200) (le 1 v) (by rw [le_len, HL.out]; simpa using hB)
              rw [t1, t2] at HCS
              clear t1 t2 hB HLL
              go_wp2_with fail
              refine HCS.out.mono ?_
              rintro e w5 ⟨rfl, h5, hf5⟩
              have A5 := Lib.hid h5
              have T5 := Lib.hid (T4.out.fr hf5 (by simp; omega))
              have F5 := Lib.hid (F4.out.trans hf5 (by simp; omega))
              clear h5 hf5 HCS
              go_wp2_with fail
              go_meet
              exact ⟨bs, f, A5.out, HL.out, T5.out, F5.out⟩
            · have hfit : a % 4200 + 1 ≤ 4096 := by simpa using hB
              have htg := tags_num bs f (a % 4200) 1 v HL.out (by omega) hfit
              clear hB
              go_wp2_with fail
              refine HCS.out.mono ?_
              rintro e w5 ⟨rfl, h5, hf5⟩
              have A5 := Lib.hid h5
              have T5 := T4.out.fr hf5 (by simp; omega)
              have F5 := Lib.hid (F4.out.trans hf5 (by simp; omega))
              obtain ⟨D, hD⟩ : ∃ D, a % 4200 / 16 = D := ⟨_, rfl⟩
              obtain ⟨D2, hD2⟩ : ∃ D, (a % 4200 + 1 - 1) / 16 = D := ⟨_, rfl⟩
              obtain rfl : D2 = D := by omega
              have hDI : (a : Int) % 4200 / 16 = (D2 : Int) := by omega
              have hDI2 : ((a : Int) % 4200 + 1 - 1) / 16 = (D2 : Int) := by omega
              have hD256 : D2 < 256 := by omega
              have hD2256 : D2 < 256 := by omega
              have cd : w5.cell? ⟨tq, D2, none⟩ = some (.bool (f D2)) := (T5.cell D2).trans (HTg.out f D2 hD256)
              have zd := T5.froz D2
              have T6 := T5.set D2 (.bool false)
              rw [HTs.out] at T6
              have cd2 : (w5.setCell ⟨tq, D2, none⟩ (.bool false)).cell? ⟨tq, D2, none⟩ = some (.bool (if D2 = D2 then false else f D2)) := (T6.cell D2).trans (HTg.out _ D2 hD2256)
              have zd2 := T6.froz D2
              have T7 := T6.set D2 (.bool false)
              rw [HTs.out] at T7
              rw [hD, hD2] at htg
              rw [htg] at A5
              have T7 := Lib.hid T7
              have hwk : IntKind.u32.wrap ((a : Int) % 4200 + 1 - 1) = (a : Int) % 4200 + 1 - 1 := by simp [IntKind.wrap, IntKind.signed, IntKind.bits]; omega
              clear hf5 h5 HCS T5 T6 htg
              go_wp2_with fail
              go_meet
              exact ⟨_, _, (A5.out.fr ((Fr.refl [tq] _).set (.inl (by simp)) _) (by simp; omega) (by simp; omega) (by simp; omega) (by simp; omega)).fr ((Fr.refl [tq] _).set (.inl (by simp)) _) (by simp; omega) (by simp; omega) (by simp; omega) (by simp; omega), HLL.out, T7.out, (F5.out.set (.inr (by simp; omega)) _).set (.inr (by simp; omega)) _⟩
          · have hwI : (wd : Int) % 4 = 1 := by omega
            have CS := astore_any _ _ _ _ _ _ _ _ A4.out (a % 4200) (by omega) 2 v (by omega) hv
            have hll : (wrL bs (a % 4200) (le 2 v)).length = 4096 := by rw [wrL_len]; exact HL.out
            have e2 : w4.cell? ⟨q, 2, none⟩ = some (.int .u32 v) := P4.out.cell 2
            obtain ⟨B, hB⟩ : ∃ B, decide (a % 4200 + 2 ≤ 4096) = B := ⟨_, rfl⟩
            have hBI : decide ((a : Int) % 4200 + 2 ≤ 4096) = B := by rw [← hB, decide_eq_decide]; omega
            rw [HL.out, hB, show ((a % 4200 : Nat) : Int) = (a : Int) % 4200 by omega] at CS
            have HCS := Lib.hid CS
            have HLL := Lib.hid hll
            clear CS hll
            cases B
            · obtain ⟨t1, t2⟩ := tags_out bs f (a % 4200) (le 2 v) (by rw [le_len, HL.out]; simpa using hB)
              rw [t1, t2] at HCS
              clear t1 t2 hB HLL
              go_wp2_with fail
              refine HCS.out.mono ?_
              rintro e w5 ⟨rfl, h5, hf5⟩
              have A5 := Lib.hid h5
              have T5 := Lib.hid (T4.out.fr hf5 (by simp; omega))
              have F5 := Lib.hid (F4.out.trans hf5 (by simp; omega))
              clear h5 hf5 HCS
              go_wp2_with fail
              go_meet
              exact ⟨bs, f, A5.out, HL.out, T5.out, F5.out⟩
            · have hfit : a % 4200 + 2 ≤ 4096 := by simpa using hB
              have htg := tags_num bs f (a % 4200) 2 v HL.out (by omega) hfit
              clear hB
              go_wp2_with fail
              refine HCS.out.mono ?_
              rintro e w5 ⟨rfl, h5, hf5⟩
              have A5 := Lib.hid h5
              have T5 := T4.out.fr hf5 (by simp; omega)
              have F5 := Lib.hid (F4.out.trans hf5 (by simp; omega))
              obtain ⟨D, hD⟩ : ∃ D, a % 4200 / 16 = D := ⟨_, rfl⟩
              obtain ⟨D2, hD2⟩ : ∃ D, (a % 4200 + 2 - 1) / 16 = D := ⟨_, rfl⟩
              have hDI : (a : Int) % 4200 / 16 = (D : Int) := by omega
              have hDI2 : ((a : Int) % 4200 + 2 - 1) / 16 = (D2 : Int) := by omega
              have hD256 : D < 256 := by omega
              have hD2256 : D2 < 256 := by omega
              have cd : w5.cell? ⟨tq, D, none⟩ = some (.bool (f D)) := (T5.cell D).trans (HTg.out f D hD256)
              have zd := T5.froz D
              have T6 := T5.set D (.bool false)
              rw [HTs.out] at T6
              have cd2 : (w5.setCell ⟨tq, D, none⟩ (.bool false)).cell? ⟨tq, D2, none⟩ = some (.bool (if D2 = D then false else f D2)) := (T6.cell D2).trans (HTg.out _ D2 hD2256)
              have zd2 := T6.froz D2
              have T7 := T6.set D2 (.bool false)
              rw [HTs.out] at T7
              rw [hD, hD2] at htg
              rw [htg] at A5
              have T7 := Lib.hid T7
              have hwk : IntKind.u32.wrap ((a : Int) % 4200 + 2 - 1) = (a : Int) % 4200 + 2 - 1 := by simp [IntKind.wrap, IntKind.signed, IntKind.bits]; omega
              clear hf5 h5 HCS T5 T6 htg
              go_wp2_with fail
              go_meet
              exact ⟨_, _, (A5.out.fr ((Fr.refl [tq] _).set (.inl (by simp)) _) (by simp; omega) (by simp; omega) (by simp; omega) (by simp; omega)).fr ((Fr.refl [tq] _).set (.inl (by simp)) _) (by simp; omega) (by simp; omega) (by simp; omega) (by simp; omega), HLL.out, T7.out, (F5.out.set (.inr (by simp; omega)) _).set (.inr (by simp; omega)) _⟩
          · have hwI : (wd : Int) % 4 = 2 := by omega
            have CS := astore_any _ _ _ _ _ _ _ _ A4.out (a % 4200) (by omega) 4 v (by omega) hv
            have hll : (wrL bs (a % 4200) (le 4 v)).length = 4096 := by rw [wrL_len]; exact HL.out
            have e2 : w4.cell? ⟨q, 2, none⟩ = some (.int .u32 v) := P4.out.cell 2
            obtain ⟨B, hB⟩ : ∃ B, decide (a % 4200 + 4 ≤ 4096) = B := ⟨_, rfl⟩
            have hBI : decide ((a : Int) % 4200 + 4 ≤ 4096) = B := by rw [← hB, decide_eq_decide]; omega
            rw [HL.out, hB, show ((a % 4200 : Nat) : Int) = (a : Int) % 4200 by omega] at CS
            have HCS := Lib.hid CS
            have HLL := Lib.hid hll
            clear CS hll
            cases B
            · obtain ⟨t1, t2⟩ := tags_out bs f (a % 4200) (le 4 v) (by rw [le_len, HL.out]; simpa using hB)
              rw [t1, t2] at HCS
              clear t1 t2 hB HLL
              go_wp2_with fail
              refine HCS.out.mono ?_
              rintro e w5 ⟨rfl, h5, hf5⟩
              have A5 := Lib.hid h5
              have T5 := Lib.hid (T4.out.fr hf5 (by simp; omega))
              have F5 := Lib.hid (F4.out.trans hf5 (by simp; omega))
              clear h5 hf5 HCS
              go_wp2_with fail
              go_meet
              exact ⟨bs, f, A5.out, HL.out, T5.out, F5.out⟩
            · have hfit : a % 4200 + 4 ≤ 4096 := by simpa using hB
              have htg := tags_num bs f (a % 4200) 4 v HL.out (by omega) hfit
              clear hB
              go_wp2_with fail
              refine HCS.out.mono ?_
              rintro e w5 ⟨rfl, h5, hf5⟩
              have A5 := Lib.hid h5
              have T5 := T4.out.fr hf5 (by simp; omega)
              have F5 := Lib.hid (F4.out.trans hf5 (by simp; omega))
              obtain ⟨D, hD⟩ : ∃ D, a % 4200 / 16 = D := ⟨_, rfl⟩
              obtain ⟨D2, hD2⟩ : ∃ D, (a % 4200 + 4 - 1) / 16 = D := ⟨_, rfl⟩
              have hDI : (a : Int) % 4200 / 16 = (D : Int) := by omega
              have hDI2 : ((a : Int) % 4200 + 4 - 1) / 16 = (D2 : Int) := by omega
              have hD256 : D < 256 := by omega
              have hD2256 : D2 < 256 := by omega
              have cd : w5.cell? ⟨tq, D, none⟩ = some (.bool (f D)) := (T5.cell D).trans (HTg.out f D hD256)
              have zd := T5.froz D
              have T6 := T5.set D (.bool false)
              rw [HTs.out] at T6
              have cd2 : (w5.setCell ⟨tq, D, none⟩ (.bool false)).cell? ⟨tq, D2, none⟩ = some (.bool (if D2 = D then false else f D2)) := (T6.cell D2).trans (HTg.out _ D2 hD2256)
              have zd2 := T6.froz D2
              have T7 := T6.set D2 (.bool false)
              rw [HTs.out] at T7
              rw [hD, hD2] at htg
              rw [htg] at A5
              have T7 := Lib.hid T7
              have hwk : IntKind.u32.wrap ((a : Int) % 4200 + 4 - 1) = (a : Int) % 4200 + 4 - 1 := by simp [IntKind.wrap, IntKind.signed, IntKind.bits]; omega
              clear hf5 h5 HCS T5 T6 htg
              go_wp2_with fail
              go_meet
              exact ⟨_, _, (A5.out.fr ((Fr.refl [tq] _).set (.inl (by simp)) _) (by simp; omega) (by simp; omega) (by simp; omega) (by simp; omega)).fr ((Fr.refl [tq] _).set (.inl (by simp)) _) (by simp; omega) (by simp; omega) (by simp; omega) (by simp; omega), HLL.out, T7.out, (F5.out.set (.inr (by simp; omega)) _).set (.inr (by simp; omega)) _⟩
      obtain ⟨bs', f', hA5, hl5, hT5, hF5⟩ := hcut
      have A5 := Lib.hid hA5
      have T5 := Lib.hid hT5
      have F5 := Lib.hid hF5
      have HL5 := Lib.hid hl5
      have hT5l := hT5.lt
      clear hA5 hT5 hF5 hl5 A4 T4 F4 P4 HL htl hAl e0 e1
      obtain ⟨wb, rfl⟩ : ∃ W : World, W = wc := ⟨_, rfl⟩
      go_wp2_with fail
      go_loopw [9] (fun i wr => ∃ P : Nat, P ≤ 16 ∧ i = .int .i64 P ∧ Fr [] wb wr) (fun i _ => 16 - (intOf i).toNat)
      case atStart => exact ⟨0, by omega, rfl, Fr.refl _ _⟩
      case round =>
        rename World => wp
        obtain ⟨P, hP, rfl, hfp⟩ := hrel
        have FP := Lib.hid hfp
        clear hfp
        by_cases hP16 : P < 16
        · have hPI : (P : Int) < 16 := by omega
          have CT := atagged_any _ _ _ _ _ _ _ _ (A5.out.fr0 FP.out) P
          rw [HL5.out, show tgP 4096 f' (P : Int) = tagL f' (16 * P) 16 by unfold tgP; rw [if_pos (by omega), Int.toNat_natCast]] at CT
          have HAT := Lib.hid fun j hj h => tagL_at f' (16 * P) j 16 hj h
          have HY := Lib.hid fun j h => tagL_yes f' (16 * P) j h
          have HN := Lib.hid fun j h => tagL_no f' (16 * P) j h
          have HLe := Lib.hid fun j => tagL_len f' (16 * P) j
          have HUG := Lib.hid fun i n h => u32s_get (tagL f' (16 * P) 16) i n h
          obtain ⟨M, hM⟩ : ∃ M, (tagL f' (16 * P) 16).length = M := ⟨_, rfl⟩
          obtain ⟨TL, hTL⟩ : ∃ TL : Nat → List Nat, ∀ j, tagL f' (16 * P) j = TL j := ⟨_, fun _ => rfl⟩
          rw [hM] at CT
          simp only [hTL] at CT HAT HY HN HLe HUG hM
          have HM := Lib.hid hM
          have HT0 := Lib.hid (show (TL 0).length = 0 by rw [← hTL]; rfl)
          clear hM hTL
          go_wp2_with fail
          refine CT.mono ?_
          rintro e w6 ⟨v6, rfl, ho6, hf6⟩
          obtain ⟨va, vc, rfl, hvc⟩ := own_slice ho6
          have HO := Lib.hid ho6
          have F6 := Lib.hid (FP.out.trans0 hf6)
          clear ho6 hf6 CT FP
          go_wp2_with fail
          go_loopw [11, 12] (fun s i wr => ∃ j : Nat, j ≤ 16 ∧ i = .int .i64 (16 * (P : Int) + (j : Int)) ∧ s = .int .i64 ((TL j).length : Nat) ∧ Fr [] w6 wr) (fun _ i _ => (16 * P + 16) - (intOf i).toNat)
          case atStart => exact ⟨0, by omega, by simp, by rw [HT0.out]; rfl, Fr.refl _ _⟩
          case round =>
            rename World => wk
            obtain ⟨j, hj, rfl, rfl, hfk⟩ := hrel
            have FK := Lib.hid hfk
            clear hfk
            by_cases hj16 : j < 16
            · have hlt : 16 * (P : Int) + (j : Int) < 16 * (P : Int) + 16 := by omega
              have cj : wk.cell? ⟨tq, 16 * P + j, none⟩ = some (.bool (f' (16 * P + j))) := ((T5.out.fr (F6.out.trans0 FK.out) (by simp)).cell _).trans (HTg.out f' _ (by omega))
              have hle := HLe.out j
              obtain ⟨x, hx⟩ : ∃ x, f' (16 * P + j) = x := ⟨_, rfl⟩
              have HX := Lib.hid hx
              rw [hx] at cj
              have htn : (16 * (P : Int) + (j : Int)).toNat = 16 * P + j := by omega
              clear hx
              cases x
              · have hno := HN.out j HX.out
                have HNO := Lib.hid hno
                clear hno
                go_wp2_with fail
                go_roundw
                case rel => exact ⟨j + 1, by omega, by go_num, by rw [HNO.out], FK.out⟩
                case measure => simp [intOf]; omega
              · obtain ⟨ha1, ha2⟩ := HAT.out j hj16 HX.out
                have hy := HY.out j HX.out
                rw [HM.out] at ha2
                obtain ⟨m, hm⟩ : ∃ m, (TL j).length = m := ⟨_, rfl⟩
                rw [hm] at ha1 ha2 hle ⊢
                have hyl : (TL (j + 1)).length = m + 1 := by rw [hy, List.length_append, hm]; rfl
                have HYL := Lib.hid hyl
                obtain ⟨g11, c11, e11, hc11, hg11, hgw11, hcl11, hfz11⟩ := own_open HO.out (by omega)
                injection e11 with e1 e2 e3
                subst e1 e3
                have cm : wk.cell? ⟨g11, m, none⟩ = some (.int .u32 (((16 * P + j) * 16 : Nat) : Int)) := (FK.out.cell (a := ⟨g11, m, none⟩) hgw11 (by simp)).trans ((hcl11 m ha2).trans (HUG.out m _ ha1))
                have hge : ¬ (m : Int) ≥ (M : Int) := by omega
                have hwm : IntKind.u32.wrap (16 * (16 * (P : Int) + (j : Int))) = (((16 * P + j) * 16 : Nat) : Int) := by simp [IntKind.wrap, IntKind.signed, IntKind.bits]; omega
                clear hy hyl hcl11 hfz11 ha1 hm
                go_wp2_with fail
                go_roundw
                case rel => exact ⟨j + 1, by omega, by go_num, by rw [HYL.out]; go_num, FK.out⟩
                case measure => simp [intOf]; omega
            · obtain rfl : j = 16 := by omega
              rw [HM.out]
              go_wp2_with fail
              go_roundw
              case rel => exact ⟨P + 1, by omega, by go_num, F6.out.trans0 FK.out⟩
              case measure => simp [intOf]; omega
        · obtain rfl : P = 16 := by omega
          go_wp2_with fail
          go_roundw
          case rel => exact ⟨k + 1, bs', f', by omega, by go_num, A5.out.fr0 FP.out, HL5.out, T5.out.fr FP.out (by simp), F5.out.trans0 FP.out⟩
          case measure => simp [intOf]; omega
    · by_cases hkn2 : k < n
      · obtain rfl : k = 40 := by omega
        go_wp2_with fail
        go_ret
        exact ⟨rfl, F.out⟩
      · have hkI : ¬ (k : Int) < (n : Int) := by omega
        go_wp2_with fail
        go_ret
        exact ⟨rfl, F.out⟩
theorem laidOut : laidOutB Try.prog = true := by kernel_rfl
set_option maxRecDepth 100000 in
theorem lifted (os : Os) (started : os.Started) (H : Type) (enc : TypeId × Value → H) :
    ReturnsInHanded {} Try.checked os 3 .any (Rows.arenaDataSpec.pre6 enc Try.prog Try.f3 Rows.arenaDataRow.domain false) (Rows.arenaDataSpec.post enc Try.prog Try.f3 false true false false) := by
  refine returnsInHanded_of_change (C := Try.checked) own started (by kernel_rfl) Try.func3
    (ChangeSpec.witness6 (enc := enc) (C := Try.checked) false ⟨#[], #[.slice none 0 0], []⟩ 8 (by kernel_rfl) (by kernel_rfl) (by kernel_rfl) (by kernel_rfl)) ?_
  intro W base args ds gs before hval0 hW hcnd _
  have hval : ∀ (j : Nat) t v, Try.f3.params[j]? = some t → args[j]? = some v → Value.okWide Try.prog W .any base t v := hval0
  have hW' := hW
  obtain ⟨p, q, hA0, hV, rfl, hfz, hnd⟩ := hW
  have hA : DataW.TrodAll enc Try.prog W 0 (fun _ => true) true Try.f3.params.toList args.toList ds p := hA0
  rw [Try.params3] at hA hval
  obtain ⟨v0, vs0, d0, ds0, p0, q0, hargs, rfl, rfl, h0, r0⟩ := trodAll_cons hA
  obtain ⟨rfl, rfl, rfl⟩ := trodAll_nil r0
  obtain rfl : args = #[v0] := by cases args; simp_all
  obtain ⟨rfl, rfl⟩ := trodVars_none hV
  obtain ⟨a0, len0, cap0, rfl⟩ := okWide_slice Try.underlying22 (hval 0 22 v0 rfl rfl)
  have k0 := h0
  have lt0 : ∀ x ∈ p0, x.block < W.heap.size := by obtain ⟨m, hm⟩ := k0; exact DataW.trod_lt m _ _ _ hm
  have w0 : Elems W a0 len0 [.i .u16, .i .u8, .i .u32, .i .u32, .i .u8, .i .u16, .i .u16, .i .u16, .i .u16, .i .u32, .b] := by
    obtain ⟨fuel, hf⟩ := h0
    exact open_elems (n := 20) Try.underlying22 (by kernel_rfl : flat Try.prog 20 32 = some [.i .u16, .i .u8, .i .u32, .i .u32, .i .u8, .i .u16, .i .u16, .i .u16, .i .u16, .i .u32, .b]) (by kernel_rfl) (by decide) hf
  clear hA0 hval0
  refine (walk a0 len0 cap0 W w0).mono fun e W' ⟨he, hg⟩ => ?_
  subst he
  have bel := hg.below
  exact ⟨_, rfl, _, _, _, [], _, [], hW', trodAll_mk1 (shut_bool Try.underlying4 _), (trodAll_cons_mk (Below.trod laidOut (by kernel_rfl) (of_decide_eq_true (by kernel_rfl)) k0 bel lt0) trodAll_mk0), rfl, bel.frame _, fun h => by cases h⟩
theorem over : Rows.arenaDataRow.holds Try.pinned (OpenSpec.ofChange Rows.arenaDataSpec) :=
  OpenClaim.holds_of_wide 3 Try.f3 rfl rfl rfl rfl rfl rfl rfl ⟨rfl, rfl, rfl, rfl, rfl⟩ rfl rfl rfl rfl rfl (by kernel_rfl) Try.func3 (by kernel_rfl)
    (of_decide_eq_true (by kernel_rfl)) (by unfold Func.isWrapper; first | (rw [if_pos (by decide +kernel)]; kernel_rfl) | (rw [if_neg (by decide +kernel)]; exact ⟨rfl, rfl⟩))
    (fun os started H enc _ => lifted os started H enc)
/-- The statement, proved. -/
theorem proved : Rows.ArenaDataSaid :=
  over
end arenaData
end Go.Proofs.Ytfgmcoepldekaaa
