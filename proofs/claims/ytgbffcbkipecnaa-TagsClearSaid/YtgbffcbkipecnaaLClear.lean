/-
  TagsClear: what is cleared are just the places between two ends, and as many as were set there. No condition.
-/


import Derived.Test.YtgbffcbkipecnaaWorks
set_option linter.unusedVariables false
namespace Go.Proofs.Ytgbffcbkipecnaa
open Go.ChangeShapes Go.WideShapes Go.ChangeAt Go.RowKit
namespace tagsClear
def F (n e : Nat) : Nat → Bool := fun j => decide (j < n) && decide (j % (1 + e) = 0)
def Fi (n e i : Nat) : Nat → Bool := fun j => decide (j < i) && F n e j
def G (e : Nat) (a b : Int) : Nat → Bool := fun j => decide (j % (1 + e) = 0) && (decide (a ≤ j) && decide ((j : Int) < b))
theorem Fi_put (n e i : Nat) (hi : i < n) (hm : i % (1 + e) = 0) : upd (Fi n e i) i true = Fi n e (i + (1 + e)) := funext fun j => by
  unfold upd Fi F
  by_cases h : j = i
  · subst h; simp [hi, hm]; omega
  · rw [if_neg h]
    by_cases h1 : j < i
    · simp [h1, show j < i + (1 + e) by omega]
    · by_cases h2 : j < i + (1 + e)
      · have h3 : ¬ j % (1 + e) = 0 := by
          intro h4
          have := Nat.div_add_mod j (1 + e)
          have := Nat.div_add_mod i (1 + e)
          have h5 : (1 + e) * (i / (1 + e)) < (1 + e) * (j / (1 + e)) := by omega
          have h6 : i / (1 + e) < j / (1 + e) := Nat.lt_of_mul_lt_mul_left h5
          have h7 : (1 + e) * (i / (1 + e) + 1) ≤ (1 + e) * (j / (1 + e)) := Nat.mul_le_mul_left _ h6
          rw [Nat.mul_add] at h7
          omega
        simp [h1, h3]
      · simp [h1, h2]
theorem Fi_end (n e i : Nat) (h : n ≤ i) : Fi n e i = F n e := funext fun j => by
  unfold Fi F
  by_cases h1 : j < n
  · simp [show j < i by omega]
  · simp [h1]
theorem G_hit (n e : Nat) (a b : Int) : hit (F n e) n a b = cnt (G e a b) n := by
  unfold hit
  rw [← cntB_up _ _ _ n (by omega)]
  refine cnt_congr n fun i hi => ?_
  unfold btw F G
  rw [show decide (i < n) = true by simp [hi], Bool.true_and]
  congr 2
  · rw [decide_eq_decide]; omega
  · rw [decide_eq_decide]; omega
theorem none_left (n e : Nat) (a b : Int) : hit (clr (F n e) (max a 0).toNat (min b n).toNat) n a b = 0 := by
  unfold hit cntB
  refine cnt_zero _ _ fun i _ => ?_
  unfold btw clr
  cases F n e i <;> simp
  omega
theorem left_at (n e i : Nat) (a b : Int) (hi : i < n) : clr (F n e) (max a 0).toNat (min b n).toNat i = (decide (i % (1 + e) = 0) && (decide ((i : Int) < a) || decide (b ≤ (i : Int)))) := by
  unfold clr F
  rw [show decide (i < n) = true by simp [hi], Bool.true_and]
  congr 1
  rw [Bool.eq_iff_iff]
  simp
  omega
theorem mod_int (i e : Nat) : ((i : Int) % (1 + (e : Int)) == 0) = decide (i % (1 + e) = 0) := by
  have h : ((i : Int) % (1 + (e : Int))) = ((i % (1 + e) : Nat) : Int) := by simp
  rw [h, Bool.eq_iff_iff]
  simp
  omega
set_option maxHeartbeats 2000000 in
theorem walk0 (n e : Nat) (hn : n < 300) (he8 : e ≤ 8) (a0 a1 a b : Int) (w : World) (h0 : 0 ≤ a0) (h65 : a0 ≤ 65535) (he : a0 % 300 = n) (h1 : 0 ≤ a1) (h255 : a1 ≤ 255) (he1 : a1 % 9 = e) :
    Calls Try.prog 4 #[.int .u16 a0, .int .u8 a1, .agg #[.int .i64 a, .int .i64 b]] w fun e w' => e = .returned (.bool true) ∧ Fr [] w w' := by
  go_enter Try.func4, Try.ntmps4
  go_wp2_with (first | (go_at_call 5; refine (works_any _).mono ?_; rintro e w2 ⟨rfl, hf2⟩) | (go_at_call 6; refine (new_any n _ (by omega)).mono ?_; rintro e w3 ⟨p, g, rfl, h3, hp, hg, hf3⟩))
  have hat : At (w.alloc (.cells #[.int .i64 a, .int .i64 b] 33)) w.heap.size 33 #[.int .i64 a, .int .i64 b] := At.new _ _ _
  have hat3 := (hat.fr hf2 (by simp)).fr hf3 (by simp)
  have hfw : Fr [] w w3 := (((Fr.refl _ _).alloc _).trans0 hf2).trans0 hf3
  have hps := hf2.size
  have hpn : p ≠ w.heap.size ∧ g ≠ w.heap.size ∧ w.heap.size ≤ p ∧ w.heap.size ≤ g := by simp at hps; omega
  obtain ⟨q, hq⟩ : ∃ q, w.heap.size = q := ⟨_, rfl⟩
  rw [hq] at hat3 hpn ⊢
  have HQ := Lib.hid hq
  have H3 := Lib.hid h3
  have HA := Lib.hid hat3
  clear hq h3 hat hat3 hps hf2 hf3 hp hg
  go_loopw [10] (fun i wr => ∃ k : Nat, k % (1 + e) = 0 ∧ k ≤ n + 9 ∧ i = .int .i64 k ∧ Tg wr p g n (Fi n e k) ∧ At wr q 33 #[.int .i64 a, .int .i64 b] ∧ Fr [] w wr) (fun i _ => n + 9 - (intOf i).toNat)
  case atStart =>
    refine ⟨0, by simp, by omega, rfl, ?_, HA.out, hfw⟩
    rw [show Fi n e 0 = fun _ => false from funext fun j => by unfold Fi; simp]
    exact H3.out
  case round =>
    obtain ⟨k, hm, hk, rfl, ht, hat, hf⟩ := hrel
    have HT := Lib.hid ht
    have HAT := Lib.hid hat
    have HM := Lib.hid hm
    clear hm hat
    by_cases hlt : k < n
    · have C := Lib.hid (put_yes wr p g n _ ht k true hlt)
      have HP := Lib.hid (Fi_put n e k hlt HM.out)
      clear ht
      go_wp2_with (go_at_call 7; refine (C.out).mono ?_; rintro e w5 ⟨rfl, h5, hf5⟩)
      go_roundw
      case rel =>
        refine ⟨k + (1 + e), ?_, by omega, by go_num, by rw [← HP.out]; exact h5, HAT.out.fr hf5 (by simp; omega), hf.trans hf5 (by simp; rw [HQ.out]; omega)⟩
        rw [Nat.add_mod_right]; exact HM.out
      case measure => simp [intOf]; omega
    · have HE := Lib.hid (Fi_end n e k (by omega))
      rw [HE.out] at HT
      obtain ⟨wo, rfl⟩ : ∃ wo : World, wo = wr := ⟨_, rfl⟩
      clear ht
      go_wp2
      have c0 := HAT.out.cell 0
      have c1 := HAT.out.cell 1
      simp only [List.getElem?_toArray, List.getElem?_cons_zero, List.getElem?_cons_succ] at c0 c1
      go_loop [11, 12] (fun c i => ∃ j : Nat, j ≤ n ∧ i = .int .i64 j ∧ c = .int .i64 (cnt (G e a b) j)) (fun _ i => n - (intOf i).toNat)
      case atStart => exact ⟨0, by omega, rfl, rfl⟩
      case round =>
        obtain ⟨j, hj, rfl, rfl⟩ := hrel
        have hcl := cnt_le (G e a b) j
        by_cases hjn : j < n
        · have hmi := mod_int j e
          have Hc := Lib.hid (show cnt (G e a b) (j + 1) = cnt (G e a b) j + if G e a b j = true then 1 else 0 from rfl)
          by_cases hm : j % (1 + e) = 0
          · rw [decide_eq_true hm] at hmi
            by_cases ha : a ≤ j
            · by_cases hb : (j : Int) < b
              · have Hg := Lib.hid (show G e a b j = true by simp [G, hm, ha, hb])
                clear hm
                go_wp2
                go_round
                case rel => exact ⟨j + 1, by omega, by go_num, by rw [Hc.out, Hg.out]; go_num⟩
                case measure => simp [intOf]; omega
              · have Hg := Lib.hid (show G e a b j = false by simp [G, hb])
                clear hm
                go_wp2
                go_round
                case rel => exact ⟨j + 1, by omega, by go_num, by rw [Hc.out, Hg.out]; rfl⟩
                case measure => simp [intOf]; omega
            · have Hg := Lib.hid (show G e a b j = false by simp [G, ha])
              clear hm
              go_wp2
              go_round
              case rel => exact ⟨j + 1, by omega, by go_num, by rw [Hc.out, Hg.out]; rfl⟩
              case measure => simp [intOf]; omega
          · rw [decide_eq_false hm] at hmi
            have Hg := Lib.hid (show G e a b j = false by simp [G, hm])
            clear hm
            go_wp2
            go_round
            case rel => exact ⟨j + 1, by omega, by go_num, by rw [Hc.out, Hg.out]; rfl⟩
            case measure => simp [intOf]; omega
        · obtain rfl : j = n := by omega
          have Hh := Lib.hid (G_hit j e a b)
          have C1 := Lib.hid (any_is HT.out a b _ rfl)
          have C2 := Lib.hid fun m => clear_is (HT.out.drewN m) a b _ rfl
          rw [Hh.out] at C1
          have hn0 := Lib.hid (none_left j e a b)
          obtain ⟨N, hN⟩ : ∃ N, cnt (G e a b) j = N := ⟨_, rfl⟩
          have HN := Lib.hid (Hh.out.trans hN)
          rw [hN] at C1 hcl ⊢
          have C2 : Hid (∀ m, Calls Try.prog 11 #[.pointer (some ⟨p, 0, none⟩), .int .i64 a, .int .i64 b] (wo.drewN m) fun r w' => r = .returned (.int .i64 N) ∧ Tg w' p g j (clr (F j e) (max a 0).toNat (min b j).toNat) ∧ Fr [g] (wo.drewN m) w') := by
            rw [← HN.out]; exact C2
          have HNe := Lib.hid hN
          clear hN
          by_cases hN0 : 0 < N
          all_goals
            go_wp2_with fail
            refine (C1.out).mono ?_
            rintro e' w' ⟨rfl, m1, rfl⟩
            have hdd : decide (0 < N) = decide (0 < N) := rfl
            simp only [hN0, decide_true, decide_false]
            go_wp2_with fail
            refine (C2.out _).mono ?_
            rintro e' w5 ⟨rfl, h5, hf5⟩
            have C3 := Lib.hid (any_is h5 a b false (by rw [hn0.out]; rfl))
            have hat5 := HAT.out.frh hf5 rfl (by simp; omega)
            have d0 := hat5.cell 0
            have d1 := hat5.cell 1
            simp only [List.getElem?_toArray, List.getElem?_cons_zero, List.getElem?_cons_succ] at d0 d1
            have H5 := Lib.hid h5
            have HA5 := Lib.hid hat5
            have hf6 : Fr [] w w5 := hf.trans (hf5.hd rfl rfl rfl rfl) (by simp; rw [HQ.out]; omega)
            clear h5 hat5 hf5 hdd
            go_wp2_with fail
            refine (C3.out).mono ?_
            rintro e' w' ⟨rfl, m3, rfl⟩
            go_wp2
            go_loopw [13] (fun i wr => ∃ t m : Nat, t ≤ j ∧ i = .int .i64 t ∧ wr = w5.drewN m) (fun i _ => j - (intOf i).toNat)
            case atStart => exact ⟨0, _, by omega, rfl, rfl⟩
            case round =>
              obtain ⟨t, m, ht, rfl, rfl⟩ := hrel
              by_cases htj : t < j
              · have hmi := mod_int t e
                have hla := left_at j e t a b htj
                have Hr := Lib.hid (inR_nat t j htj)
                by_cases hm : t % (1 + e) = 0
                · rw [decide_eq_true hm] at hmi
                  by_cases hx : (t : Int) < a
                  · have hd1 : decide ((t : Int) < a) = true := decide_eq_true hx
                    have C := Lib.hid fun nq => get_is (H5.out.drewN nq) (t : Int) true (by rw [Hr.out, Int.toNat_natCast, hla]; simp [hm, hx])
                    clear hm hla
                    go_wp2
                    go_quiet ((go_at_call 8; exact q_same_add (C.out _)))
                    go_wp2
                    go_roundw
                    case rel => exact ⟨t + 1, _, by omega, by go_num, rfl⟩
                    case measure => simp [intOf]; omega
                  · have hd1 : decide ((t : Int) < a) = false := decide_eq_false hx
                    by_cases hy : b ≤ (t : Int)
                    · have hd2 : decide (b ≤ (t : Int)) = true := decide_eq_true hy
                      have C := Lib.hid fun nq => get_is (H5.out.drewN nq) (t : Int) true (by rw [Hr.out, Int.toNat_natCast, hla]; simp [hm, hy])
                      clear hm hla
                      go_wp2
                      go_quiet ((go_at_call 8; exact q_same_add (C.out _)))
                      go_wp2
                      go_roundw
                      case rel => exact ⟨t + 1, _, by omega, by go_num, rfl⟩
                      case measure => simp [intOf]; omega
                    · have hd2 : decide (b ≤ (t : Int)) = false := decide_eq_false hy
                      have C := Lib.hid fun nq => get_is (H5.out.drewN nq) (t : Int) false (by rw [Hr.out, Int.toNat_natCast, hla]; simp [hx, hy])
                      clear hm hla
                      go_wp2
                      go_quiet ((go_at_call 8; exact q_same_add (C.out _)))
                      go_wp2
                      go_roundw
                      case rel => exact ⟨t + 1, _, by omega, by go_num, rfl⟩
                      case measure => simp [intOf]; omega
                · rw [decide_eq_false hm] at hmi
                  have C := Lib.hid fun nq => get_is (H5.out.drewN nq) (t : Int) false (by rw [Hr.out, Int.toNat_natCast, hla]; simp [hm])
                  clear hm hla
                  go_wp2
                  go_quiet ((go_at_call 8; exact q_same_add (C.out _)))
                  go_wp2
                  go_roundw
                  case rel => exact ⟨t + 1, _, by omega, by go_num, rfl⟩
                  case measure => simp [intOf]; omega
              · go_wp2
                go_ret
                exact ⟨rfl, hf6.drewN _⟩
theorem walk (a0 : Int) (w0 : (Lit.int .u16 a0).wf = true) (a1 : Int) (w1 : (Lit.int .u8 a1).wf = true) (x : Int) (wx : (Lit.int .i64 x).wf = true) (y : Int) (wy : (Lit.int .i64 y).wf = true) (w : World) :
    Calls Try.prog 4 #[.int .u16 a0, .int .u8 a1, .agg #[.int .i64 x, .int .i64 y]] w fun e w' => e = .returned (.bool true) ∧ Fr [] w w' := by
  have hb := bounds_u16 w0
  have hb1 := bounds_u8 w1
  exact walk0 (a0 % 300).toNat (a1 % 9).toNat (by omega) (by omega) a0 a1 x y w (by omega) (by omega) (by omega) (by omega) (by omega) (by omega)
theorem laidOut : laidOutB Try.prog = true := by kernel_rfl
set_option maxRecDepth 100000 in
theorem lifted (os : Os) (started : os.Started) (H : Type) (enc : TypeId × Value → H) :
    ReturnsInHanded {} Try.checked os 4 .any (Rows.tagsClearSpec.pre6 enc Try.prog Try.f4 Rows.tagsClearRow.domain false) (Rows.tagsClearSpec.post enc Try.prog Try.f4 false true false false) := by
  refine returnsInHanded_of_change (C := Try.checked) own started (by kernel_rfl) Try.func4
    (ChangeSpec.witness6 (enc := enc) (C := Try.checked) false ⟨#[], #[.int .u16 0, .int .u8 0, .agg #[.int .i64 0, .int .i64 0]], []⟩ 8 (by kernel_rfl) (by kernel_rfl) (by kernel_rfl) (by kernel_rfl)) ?_
  intro W base args ds gs before hval0 hW hcnd _
  have hval : ∀ (j : Nat) t v, Try.f4.params[j]? = some t → args[j]? = some v → Value.okWide Try.prog W .any base t v := hval0
  have hW' := hW
  obtain ⟨p, q, hA0, hV, rfl, hfz, hnd⟩ := hW
  have hA : DataW.TrodAll enc Try.prog W 0 (fun _ => true) true Try.f4.params.toList args.toList ds p := hA0
  rw [Try.params4] at hA hval
  obtain ⟨v0, vs0, d0, ds0, p0, q0, hargs, rfl, rfl, h0, r0⟩ := trodAll_cons hA
  obtain ⟨v1, vs1, d1, ds1, p1, q1, rfl, rfl, rfl, h1, r1⟩ := trodAll_cons r0
  obtain ⟨v2, vs2, d2, ds2, p2, q2, rfl, rfl, rfl, h2, r2⟩ := trodAll_cons r1
  obtain ⟨rfl, rfl, rfl⟩ := trodAll_nil r2
  obtain rfl : args = #[v0, v1, v2] := by cases args; simp_all
  obtain ⟨rfl, rfl⟩ := trodVars_none hV
  obtain ⟨a0, rfl, rfl, rfl, w0⟩ := open_int Try.underlying22 (hval 0 22 v0 rfl rfl) h0
  obtain ⟨a1, rfl, rfl, rfl, w1⟩ := open_int Try.underlying5 (hval 1 5 v1 rfl rfl) h1
  have k2 := h2
  have lt2 : ∀ x ∈ p2, x.block < W.heap.size := by obtain ⟨m, hm⟩ := k2; exact DataW.trod_lt m _ _ _ hm
  obtain ⟨x2, y2, rfl, wx2, wy2⟩ := open_arr2 Try.underlying33 Try.underlying3 (by kernel_rfl) (by kernel_rfl) (hval 2 33 v2 rfl rfl) h2
  clear hA0 hval0
  refine (walk a0 w0 a1 w1 x2 wx2 y2 wy2 W ).mono fun e W' ⟨he, hg⟩ => ?_
  subst he
  have bel := hg.below
  exact ⟨_, rfl, _, _, _, [], _, [], hW', trodAll_mk1 (shut_bool Try.underlying4 _), (trodAll_cons_mk (shut_int Try.underlying22 w0) (trodAll_cons_mk (shut_int Try.underlying5 w1) (trodAll_cons_mk (Below.trod laidOut (by kernel_rfl) (of_decide_eq_true (by kernel_rfl)) k2 bel lt2) trodAll_mk0))), rfl, bel.frame _, fun h => by cases h⟩
theorem over : Rows.tagsClearRow.holds Try.pinned (OpenSpec.ofChange Rows.tagsClearSpec) :=
  OpenClaim.holds_of_wide 4 Try.f4 rfl rfl rfl rfl rfl rfl rfl ⟨rfl, rfl, rfl, rfl, rfl⟩ rfl rfl rfl rfl rfl (by kernel_rfl) Try.func4 (by kernel_rfl)
    (of_decide_eq_true (by kernel_rfl)) (by unfold Func.isWrapper; first | (rw [if_pos (by decide +kernel)]; kernel_rfl) | (rw [if_neg (by decide +kernel)]; exact ⟨rfl, rfl⟩))
    (fun os started H enc _ => lifted os started H enc)
/-- The statement, proved. -/
theorem proved : Rows.TagsClearSaid :=
  over
end tagsClear
end Go.Proofs.Ytgbffcbkipecnaa
