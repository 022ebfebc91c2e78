/-
  PaintApart: what is painted is just the granules of the regions that were added and not removed. No condition.
-/


import Derived.Test.YtkkbbadcickicaaWorks
import Derived.Test.YtkkbbadcickicaaRefAdd
set_option linter.unusedVariables false
namespace Go.Proofs.Ytkkbbadcickicaa
open Go.ChangeShapes Go.WideShapes Go.ChangeAt Go.RowKit
namespace paintApart
theorem zero72 (w : World) : (zeroValue 25).run Try.prog w = .ok (.agg (batr 72 z0)) w := by kernel_rfl
theorem has_k (f : Nat → Bool) (h0 : ∀ i, 64 ≤ i → f i = false) (k : Nat) (j : Int) (hj : 0 ≤ j) (hj2 : j ≤ 15) : hasP 64 f (16 * k + j) = f k := by
  unfold hasP
  rw [show (16 * (k : Int) + j) / 16 = k by omega, Int.toNat_natCast]
  by_cases h : k < 64
  · rw [inR_nat _ _ h]; rfl
  · rw [h0 k (by omega)]; simp
def isA (f : Nat → Bool) (A R t : Nat) (to : Bool) : Bool := decide (A + R ≤ 64) && okP f A t to
def isF (f : Nat → Bool) (A R : Nat) (to x : Bool) : Nat → Bool := if x = true then setP f A R to else f
theorem isF_true (f : Nat → Bool) (A R : Nat) (to : Bool) : isF f A R to true = setP f A R to := if_pos rfl
theorem isF_false (f : Nat → Bool) (A R : Nat) (to : Bool) : isF f A R to false = f := if_neg (by simp)
theorem isA_okC (f : Nat → Bool) (A R : Nat) (to : Bool) (hR : 1 ≤ R) : okC 64 f (16 * A : Nat) (16 * R : Nat) to = isA f A R R to ∧ newC 64 f (16 * A : Nat) (16 * R : Nat) to = isF f A R to (isA f A R R to) := by
  unfold isA isF
  by_cases h : A + R ≤ 64
  · rw [decide_eq_true h, Bool.true_and]
    have := okC_nat (n := 64) (f := f) (to := to) hR h
    unfold chgF at this
    exact this
  · rw [decide_eq_false h, Bool.false_and, if_neg (by simp)]
    exact okC_no (by omega)
set_option maxHeartbeats 4000000 in
set_option maxRecDepth 100000 in
theorem walk0 (a1 : Option Addr) (b off len1 cap1 : Nat) (z1 : List Int) (w : World) (ha1 : len1 = 0 ∨ a1 = some ⟨b, off, none⟩) (hlen : len1 ≤ 9223372036854775807) (hzl : z1.length = len1) (hwf : ∀ z ∈ z1, (Lit.int .u8 z).wf = true) (hb : 0 < len1 → b < w.heap.size) (hc : ∀ i, i < len1 → w.cell? ⟨b, off + i, none⟩ = some (.int .u8 (z1.getD i 0))) :
    Calls Try.prog 3 #[.slice a1 len1 cap1] w fun e w' => e = .returned (.bool true) ∧ Fr [] w w' := by
  have hz := zero72
  have Hc := Lib.hid fun i (hi : i < len1) => show ∃ z : Int, w.cell? ⟨b, off + i, none⟩ = some (.int .u8 z) ∧ 0 ≤ z ∧ z ≤ 255 from
    ⟨_, hc i hi, by
      have := bounds_u8 (hwf (z1.getD i 0) (by
        rw [List.getD_eq_getElem?_getD, List.getElem?_eq_getElem (by rw [hzl]; exact hi)]
        exact List.getElem_mem _))
      exact this⟩
  have Hb := Lib.hid hb
  have HA1 := Lib.hid ha1
  clear hc hwf hzl hb ha1
  have C1 := Lib.hid fun w => ptnew_any 64 w (by omega)
  go_enter Try.func3, Try.ntmps3
  go_wp2_with (first | (go_at_call 7; refine (C1.out _).mono ?_; rintro e w3 ⟨pp, p, g, rfl, h3, hpp, hp, hg, hf3⟩))
  clear hz
  have hs3 := hf3.size
  have hl3 := h3.lt
  have hh := At.new w3 25 (batr 72 z0)
  have hfa : Fr [] w3 (w3.alloc (.cells (batr 72 z0) 25)) := (by repeat (first | exact Fr.refl _ _ | assumption | refine Fr.trans0 ?_ (by assumption) | refine Fr.drewN ?_ _ | refine Fr.alloc ?_ _ | refine Fr.drew ?_))
  have H3 := Lib.hid (h3.fr hfa (by simp) (by simp) (by simp))
  have HF3 := Lib.hid (hf3.trans0 hfa)
  obtain ⟨q, hq⟩ : ∃ q, w3.heap.size = q := ⟨_, rfl⟩
  rw [hq] at hh hl3 hs3 ⊢
  have HH := Lib.hid hh
  clear hh hq h3 hf3 hfa C1
  go_loopw [5] (fun i wr => ∃ (k : Nat) (f : Nat → Bool), k ≤ 100 ∧ i = .int .i64 k ∧ Pt wr pp p g 64 f ∧ At wr q 25 (batr 72 f) ∧ Fr [] w wr) (fun i _ => 100 - (intOf i).toNat)
  case atStart => exact ⟨0, _, by omega, rfl, H3.out, HH.out, HF3.out⟩
  case round =>
    clear H3 HH HF3
    obtain ⟨k, f, hk, rfl, hpt, hat, hf⟩ := hrel
    have HP := Lib.hid hpt
    have HT := Lib.hid hat
    clear hpt hat
    by_cases hlt : 3 * k + 2 < len1 ∧ k < 100
    · obtain ⟨hl1, hl2⟩ := hlt
      obtain rfl : a1 = some ⟨b, off, none⟩ := HA1.out.resolve_left (by omega)
      have hb := Hb.out (by omega)
      obtain ⟨x0, hx0, b00, b01⟩ := Hc.out (3 * k) (by omega)
      obtain ⟨x1, hx1, b10, b11⟩ := Hc.out (3 * k + 1) (by omega)
      obtain ⟨x2, hx2, b20, b21⟩ := Hc.out (3 * k + 2) (by omega)
      replace hx0 := (hf.cell (a := ⟨b, _, none⟩) hb (by simp)).trans hx0
      replace hx1 := (hf.cell (a := ⟨b, _, none⟩) hb (by simp)).trans hx1
      replace hx2 := (hf.cell (a := ⟨b, _, none⟩) hb (by simp)).trans hx2
      obtain ⟨A, hA⟩ := Int.eq_ofNat_of_zero_le (show 0 ≤ x1 % 64 by omega)
      obtain ⟨R, hR⟩ := Int.eq_ofNat_of_zero_le (show 0 ≤ 1 + x2 % 8 by omega)
      have hAR : A ≤ 63 ∧ 1 ≤ R ∧ R ≤ 8 := by omega
      obtain ⟨hA1, hR1, hR2⟩ := hAR
      obtain ⟨to, hto⟩ : ∃ to : Bool, (x0 % 2 == 0) = to := ⟨_, rfl⟩
      have hbw : b < wr.heap.size := by have := hf.size; omega
      have hx0' := (((Fr.refl [] wr).alloc (.cells #[.int .u32 (16 * (A : Int)), .int .u32 (16 * (R : Int))] 28)).cell (a := ⟨b, off + 3 * k, none⟩) hbw (by simp)).trans hx0
      go_wp2
      obtain ⟨X, hX⟩ : ∃ X, wr.alloc (.cells #[.int .u32 (16 * (A : Int)), .int .u32 (16 * (R : Int))] 28) = X := ⟨_, rfl⟩
      have hxf : Fr [] wr X := by rw [← hX]; exact (Fr.refl _ _).alloc _
      have ar : At X wr.heap.size 28 #[.int .u32 (16 * (A : Int)), .int .u32 (16 * (R : Int))] := by rw [← hX]; exact At.new _ _ _
      have hplt := HP.out.lt
      have hqlt := HT.out.lt
      have HX := Lib.hid (HP.out.fr hxf (by simp) (by simp) (by simp))
      have HTX := Lib.hid (HT.out.fr hxf (by simp))
      have hfX := hf.trans0 hxf
      have HAR := Lib.hid ar
      obtain ⟨r, hr⟩ : ∃ r, wr.heap.size = r := ⟨_, rfl⟩
      rw [hr] at HAR hplt hqlt hbw
      rw [hX, hr]
      have hrw : w.heap.size ≤ r := by have := hf.size; omega
      have hrg : r ≠ g ∧ r ≠ q := by omega
      obtain ⟨hrg, hrq⟩ := hrg
      have hqn : q ≠ pp ∧ q ≠ p ∧ q ≠ g := by omega
      clear hxf ar hX hx0' hx0 hx1 hx2 HP HT hf hr hto hA hR hbw
      go_loop [10, 11] (fun o i => ∃ (t : Nat) (x : Bool), t ≤ R ∧ i = .int .i64 ((A + t : Nat) : Int) ∧ o = .bool x ∧ isA f A R t to = x) (fun _ i => A + R - (intOf i).toNat)
      case atStart =>
        refine ⟨0, _, by omega, by simp, rfl, ?_⟩
        unfold isA
        rw [okP_zero, Bool.and_true, decide_eq_decide]; omega
      case round =>
        obtain ⟨t, x, ht, rfl, rfl, hx⟩ := hrel
        have HXX := Lib.hid hx
        clear hx
        by_cases htR : t < R
        · have hct := (HTX.out.cell (A + t)).trans (batr_get 72 f (A + t) (by omega))
          have HS : Hid (isA f A R (t + 1) to = (x && (f (A + t) != to))) := Lib.hid (by rw [← HXX.out]; unfold isA; rw [okP_succ, Bool.and_assoc])
          obtain ⟨y, hy⟩ : ∃ y, f (A + t) = y := ⟨_, rfl⟩
          rw [hy] at hct HS
          clear hy
          cases x
          · go_wp2
            go_round
            case rel => exact ⟨t + 1, _, by omega, by go_num, rfl, HS.out⟩
            case measure => simp [intOf]; omega
          · go_wp2
            go_round
            case rel => exact ⟨t + 1, _, by omega, by go_num, rfl, HS.out⟩
            case measure => simp [intOf]; omega
        · obtain rfl : t = R := by omega
          have hok := isA_okC f A t to hR1
          rw [HXX.out, show ((16 * A : Nat) : Int) = 16 * (A : Int) by omega, show ((16 * t : Nat) : Int) = 16 * (t : Int) by omega] at hok
          have HOK := Lib.hid hok
          have d0 := HAR.out.cell 0
          have d1 := HAR.out.cell 1
          simp only [List.getElem?_toArray, List.getElem?_cons_zero, List.getElem?_cons_succ] at d0 d1
          clear hok
          have HSET := Lib.hid fun (j : Nat) (W : World) (h : At W q 25 (batr 72 (setP f A j to))) => show At (W.setCell ⟨q, A + j, none⟩ (.bool to)) q 25 (batr 72 (setP f A (j + 1) to)) by
            have := h.set (A + j) (.bool to)
            rw [batr_set] at this
            rw [← setP_succ]
            exact this
          have HS0 := Lib.hid (show batr 72 (setP f A 0 to) = batr 72 f by rw [setP_zero])
          cases x
          · rw [isF_false] at HOK
            cases to
            all_goals
              go_wp2_with (first | (go_at_call 8; refine (ptadd_is HX.out (16 * (A : Int)) (16 * (t : Int)) false _ ⟨by omega, by omega⟩ ⟨by omega, by omega⟩ HOK.out.1 HOK.out.2).mono ?_; rintro e w5 ⟨rfl, h5, hf5⟩) | (go_at_call 9; refine (ptrem_is HX.out (16 * (A : Int)) (16 * (t : Int)) false _ ⟨by omega, by omega⟩ ⟨by omega, by omega⟩ HOK.out.1 HOK.out.2).mono ?_; rintro e w5 ⟨rfl, h5, hf5⟩))
              have H5 := Lib.hid h5
              have HT5 := Lib.hid (HTX.out.fr hf5 (by simp; omega))
              have hfw := hfX.trans hf5 (by simp; omega)
              clear h5 hf5
              refine wp_loop_rounds 1 ?_
              rw [rounds_succ]
              go_wp2
              go_roundw
              case rel => exact ⟨k + 1, f, by omega, by go_num, H5.out, HT5.out, hfw⟩
              case measure => simp [intOf]; omega
          · rw [isF_true] at HOK
            cases to
            all_goals
              go_wp2_with (first | (go_at_call 8; refine (ptadd_is HX.out (16 * (A : Int)) (16 * (t : Int)) true _ ⟨by omega, by omega⟩ ⟨by omega, by omega⟩ HOK.out.1 HOK.out.2).mono ?_; rintro e w5 ⟨rfl, h5, hf5⟩) | (go_at_call 9; refine (ptrem_is HX.out (16 * (A : Int)) (16 * (t : Int)) true _ ⟨by omega, by omega⟩ ⟨by omega, by omega⟩ HOK.out.1 HOK.out.2).mono ?_; rintro e w5 ⟨rfl, h5, hf5⟩))
              have H5 := Lib.hid h5
              have HT5 := Lib.hid (HTX.out.fr hf5 (by simp; omega))
              have hfw := hfX.trans hf5 (by simp; omega)
              clear h5 hf5
              obtain ⟨wo, rfl⟩ : ∃ wo : World, wo = w5 := ⟨_, rfl⟩
              go_loopw [13] (fun i wr => ∃ j : Nat, j ≤ t ∧ i = .int .i64 ((A + j : Nat) : Int) ∧ At wr q 25 (batr 72 (setP f A j _)) ∧ Fr [q] wo wr) (fun i _ => A + t - (intOf i).toNat)
              case atStart => exact ⟨0, by omega, by simp, by rw [HS0.out]; exact HT5.out, Fr.refl _ _⟩
              case round =>
                obtain ⟨j, hj, rfl, hat, hfj⟩ := hrel
                have HAT := Lib.hid hat
                by_cases hjt : j < t
                · have hcj := (hat.cell (A + j)).trans (batr_get 72 _ (A + j) (by omega))
                  have hfz := hat.froz (A + j)
                  clear hat
                  go_wp2
                  go_roundw
                  case rel => exact ⟨j + 1, by omega, by go_num, HSET.out _ _ HAT.out, hfj.set (.inl (by simp)) _⟩
                  case measure => simp [intOf]; omega
                · obtain rfl : j = t := by omega
                  clear hat
                  go_wp2
                  go_roundw
                  case rel => exact ⟨k + 1, _, by omega, by go_num, H5.out.fr hfj (by simp; omega) (by simp; omega) (by simp; omega), HAT.out, hfw.trans hfj (by simp; omega)⟩
                  case measure => simp [intOf]; omega
    · have hlt2 : ¬ 3 * k + 2 < len1 ∨ ¬ k < 100 := by omega
      clear hlt
      obtain ⟨wo, rfl⟩ : ∃ wo : World, wo = wr := ⟨_, rfl⟩
      have h0 := HP.out.2.1.2.2.1
      have H0 := Lib.hid h0
      clear h0
      have HE := Lib.hid (cnt_out f 64 72 H0.out (by omega))
      by_cases h1 : 3 * k + 2 < len1
      all_goals
        have h5 : ¬ (3 * k + 2 < len1 ∧ k < 100) := by omega
        go_wp2
        go_loopw [14, 15] (fun c i wr => ∃ j m : Nat, j ≤ 72 ∧ i = .int .i64 j ∧ c = .int .i64 (cnt f j) ∧ wr = wo.drewN m) (fun _ i _ => 72 - (intOf i).toNat)
        case atStart => exact ⟨0, 0, by omega, rfl, rfl, rfl⟩
        case round =>
          obtain ⟨j, m, hj, rfl, rfl, rfl⟩ := hrel
          have hcl := cnt_le f j
          by_cases hjn : j < 72
          · have hcj := (HT.out.cell j).trans (batr_get 72 f j hjn)
            have G1 := has_k f H0.out j 0 (by omega) (by omega)
            have G2 := has_k f H0.out j 15 (by omega) (by omega)
            rw [Int.add_zero] at G1
            have e1 : IntKind.i64.wrap (16 * (j : Int)) = 16 * j := IntWalk.i64_in _ (by omega)
            have e2 : IntKind.i64.wrap (16 * (j : Int) + 15) = 16 * j + 15 := IntWalk.i64_in _ (by omega)
            have e3 : IntKind.u32.wrap (16 * (j : Int)) = 16 * j := IntWalk.u32_in _ (by omega)
            have e4 : IntKind.u32.wrap (16 * (j : Int) + 15) = 16 * j + 15 := IntWalk.u32_in _ (by omega)
            cases hfj : f j
            · rw [hfj] at hcj G1 G2
              have D := Lib.hid fun W (hW : W.heap = wo.heap) (x : Int) (hx : R32 x ∧ hasP 64 f x = false) => pthas_is (w := W) (HP.out.heap hW) x false hx.1 hx.2
              have G3 := Lib.hid (And.intro (show R32 (16 * (j : Int)) from ⟨by omega, by omega⟩) G1)
              have G4 := Lib.hid (And.intro (show R32 (16 * (j : Int) + 15) from ⟨by omega, by omega⟩) G2)
              have Hn := Lib.hid (show cnt f (j + 1) = cnt f j by simp [cnt, hfj])
              clear hfj G1 G2
              go_wp2
              go_quiet ((go_at_call 10; exact q_same_add (D.out _ (by rfl) _ (by first | with_reducible exact G3.out | with_reducible exact G4.out))))
              go_wp2
              go_roundw
              case rel => exact ⟨j + 1, _, by omega, by go_num, by rw [Hn.out], rfl⟩
              case measure => simp [intOf]; omega
            · rw [hfj] at hcj G1 G2
              have D := Lib.hid fun W (hW : W.heap = wo.heap) (x : Int) (hx : R32 x ∧ hasP 64 f x = true) => pthas_is (w := W) (HP.out.heap hW) x true hx.1 hx.2
              have G3 := Lib.hid (And.intro (show R32 (16 * (j : Int)) from ⟨by omega, by omega⟩) G1)
              have G4 := Lib.hid (And.intro (show R32 (16 * (j : Int) + 15) from ⟨by omega, by omega⟩) G2)
              have Hn := Lib.hid (show cnt f (j + 1) = cnt f j + 1 by simp [cnt, hfj])
              clear hfj G1 G2
              go_wp2
              go_quiet ((go_at_call 10; exact q_same_add (D.out _ (by rfl) _ (by first | with_reducible exact G3.out | with_reducible exact G4.out))))
              go_wp2
              go_roundw
              case rel => exact ⟨j + 1, _, by omega, by go_num, by rw [Hn.out]; go_num, rfl⟩
              case measure => simp [intOf]; omega
          · obtain rfl : j = 72 := by omega
            go_wp2_with (first | (go_at_call 11; refine (ptcount_is (HP.out.drewN m) (cnt f 72) HE.out.symm).mono ?_; rintro e w5 ⟨rfl, rfl⟩) | (go_at_call 12; refine (works15_any _).mono ?_; rintro e w6 ⟨rfl, hf6⟩))
            go_ret
            exact ⟨rfl, (hf.drewN m).trans0 hf6⟩
theorem walk (a1 : Option Addr) (len1 cap1 : Nat) (z1 : List Int) (w : World) (w1 : Ints .u8 w a1 len1 z1) :
    Calls Try.prog 3 #[.slice a1 len1 cap1] w fun e w' => e = .returned (.bool true) ∧ Fr [] w w' := by
  obtain ⟨h1, h2, h3, h4⟩ := w1
  rcases h4 with h4 | ⟨b, off, h5, h6, h7⟩
  · exact walk0 a1 0 0 len1 cap1 z1 w (.inl h4) h1 h2 h3 (fun h => by omega) (fun i hi => by omega)
  · exact walk0 a1 b off len1 cap1 z1 w (.inr h5) h1 h2 h3 (fun _ => h6) h7
theorem laidOut : laidOutB Try.prog = true := by kernel_rfl
set_option maxRecDepth 100000 in
theorem lifted (os : Os) (started : os.Started) (H : Type) (enc : TypeId × Value → H) :
    ReturnsInHanded {} Try.checked os 3 .any (Rows.paintApartSpec.pre6 enc Try.prog Try.f3 Rows.paintApartRow.domain false) (Rows.paintApartSpec.post enc Try.prog Try.f3 false true false false) := by
  refine returnsInHanded_of_change (C := Try.checked) own started (by kernel_rfl) Try.func3
    (ChangeSpec.witness6 (enc := enc) (C := Try.checked) false ⟨#[], #[.slice none 0 0], []⟩ 8 (by kernel_rfl) (by kernel_rfl) (by kernel_rfl) (by kernel_rfl)) ?_
  intro W base args ds gs before hval0 hW hcnd _
  have hval : ∀ (j : Nat) t v, Try.f3.params[j]? = some t → args[j]? = some v → Value.okWide Try.prog W .any base t v := hval0
  have hW' := hW
  obtain ⟨p, q, hA0, hV, rfl, hfz, hnd⟩ := hW
  have hA : DataW.TrodAll enc Try.prog W 0 (fun _ => true) true Try.f3.params.toList args.toList ds p := hA0
  rw [Try.params3] at hA hval
  obtain ⟨v0, vs0, d0, ds0, p0, q0, hargs, rfl, rfl, h0, r0⟩ := trodAll_cons hA
  obtain ⟨rfl, rfl, rfl⟩ := trodAll_nil r0
  obtain rfl : args = #[v0] := by cases args; simp_all
  obtain ⟨rfl, rfl⟩ := trodVars_none hV
  obtain ⟨a0, len0, cap0, rfl⟩ := okWide_slice Try.underlying22 (hval 0 22 v0 rfl rfl)
  have k0 := h0
  have lt0 : ∀ x ∈ p0, x.block < W.heap.size := by obtain ⟨m, hm⟩ := k0; exact DataW.trod_lt m _ _ _ hm
  obtain ⟨z0, w0⟩ : ∃ zs, Ints .u8 W a0 len0 zs := by
    obtain ⟨fuel, hf⟩ := h0
    rcases open_ints Try.underlying22 Try.underlying5 (by kernel_rfl) hf with ⟨hcs, _⟩ | ⟨x, l, c, zs, hcs, _, hl, hm, hz, _, hcell, hwz⟩
    · simp [Value.cells] at hcs
      obtain ⟨rfl, rfl, rfl⟩ := hcs
      exact ⟨[], Ints.nil _⟩
    · simp [Value.cells] at hcs
      obtain ⟨rfl, rfl, rfl⟩ := hcs
      exact ⟨zs.take len0, Ints.of hl hm (by simpa using hz) hcell hwz⟩
  clear hA0 hval0
  refine (walk a0 len0 cap0 z0 W w0).mono fun e W' ⟨he, hg⟩ => ?_
  subst he
  have bel := hg.below
  exact ⟨_, rfl, _, _, _, [], _, [], hW', trodAll_mk1 (shut_bool Try.underlying4 _), (trodAll_cons_mk (Below.trod laidOut (by kernel_rfl) (of_decide_eq_true (by kernel_rfl)) k0 bel lt0) trodAll_mk0), rfl, bel.frame _, fun h => by cases h⟩
theorem over : Rows.paintApartRow.holds Try.pinned (OpenSpec.ofChange Rows.paintApartSpec) :=
  OpenClaim.holds_of_wide 3 Try.f3 rfl rfl rfl rfl rfl rfl rfl ⟨rfl, rfl, rfl, rfl, rfl⟩ rfl rfl rfl rfl rfl (by kernel_rfl) Try.func3 (by kernel_rfl)
    (of_decide_eq_true (by kernel_rfl)) (by unfold Func.isWrapper; first | (rw [if_pos (by decide +kernel)]; kernel_rfl) | (rw [if_neg (by decide +kernel)]; exact ⟨rfl, rfl⟩))
    (fun os started H enc _ => lifted os started H enc)
/-- The statement, proved. -/
theorem proved : Rows.PaintApartSaid :=
  over
end paintApart
end Go.Proofs.Ytkkbbadcickicaa
