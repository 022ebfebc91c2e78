/-
  TagsKeep: a place is as it was put last, and nothing else changes it. No condition.
-/


import Derived.Test.YtgbffcbkipecnaaWorks
set_option linter.unusedVariables false
namespace Go.Proofs.Ytgbffcbkipecnaa
open Go.ChangeShapes Go.WideShapes Go.ChangeAt Go.RowKit
namespace tagsKeep
/-- The law's own list of what is wanted. -/
def wantA (f : Nat → Bool) : Array Value := ((List.range 300).map fun j => Value.bool (f j)).toArray
theorem wantA_get (f : Nat → Bool) (k : Nat) (h : k < 300) : (wantA f)[k]? = some (.bool (f k)) := by
  unfold wantA
  simp [List.getElem?_map, List.getElem?_range h]
theorem wantA_size (f : Nat → Bool) : (wantA f).size = 300 := by simp [wantA]
theorem wantA_set (f : Nat → Bool) (i : Nat) (b : Bool) : (wantA f).setIfInBounds i (.bool b) = wantA (upd f i b) := by
  refine Array.ext_getElem? fun j => ?_
  rw [Array.getElem?_setIfInBounds]
  by_cases hj : j < 300
  · rw [wantA_get _ _ hj, wantA_get _ _ hj, wantA_size]
    unfold upd
    by_cases e : i = j
    · subst e; simp [hj]
    · rw [if_neg e, if_neg (fun h => e h.symm)]
  · have h1 : ∀ g, (wantA g)[j]? = none := fun g => Array.getElem?_eq_none (by rw [wantA_size]; omega)
    rw [h1, h1, wantA_size]
    by_cases e : i = j
    · subst e; simp [hj]
    · rw [if_neg e]
def Want (w : World) (q : Nat) (f : Nat → Bool) : Prop := At w q 27 (wantA f)
theorem zeroW (w : World) : (zeroValue 27).run Try.prog w = .ok (.agg (wantA fun _ => false)) w := by kernel_rfl
set_option maxHeartbeats 2000000 in
theorem walk0 (n : Nat) (hn : n < 300) (a1 : Option Addr) (len1 cap1 : Nat) (z1 : List Int) (w : World) (a0 : Int) (h0 : 0 ≤ a0) (h65 : a0 ≤ 65535) (he : a0 % 300 = n) (w1 : Ints .i64 w a1 len1 z1) :
    Calls Try.prog 3 #[.int .u16 a0, .slice a1 len1 cap1] w fun e w' => e = .returned (.bool true) ∧ Fr [] w w' := by
  obtain ⟨hlen, hzl, hwf, hz⟩ := w1
  rcases hz with hz | ⟨b, off, rfl, hb, hc⟩
  · have hzv := zeroW
    go_enter Try.func3, Try.ntmps3
    go_wp2_with (first | (go_at_call 5; refine (works_any _).mono ?_; rintro e w2 ⟨rfl, hf2⟩) | (go_at_call 6; refine (new_any n _ (by omega)).mono ?_; rintro e w3 ⟨p, g, rfl, h3, hp, hg, hf3⟩))
    clear hzv
    have hws := hf2.size
    have hne : p ≠ w3.heap.size ∧ g ≠ w3.heap.size := by have := h3.lt; omega
    have hf4 := Fr.alloc hf3 (.cells (wantA fun _ => false) 27)
    have hq := At.new w3 27 (wantA fun _ => false)
    have h4 : Tg (w3.alloc (.cells (wantA fun _ => false) 27)) p g n (fun _ => false) := h3.fr (S := []) ((Fr.refl _ _).alloc _) (by simp) (by simp)
    have hqs : w2.heap.size ≤ w3.heap.size := hf3.size
    obtain ⟨q, hqq⟩ : ∃ q, w3.heap.size = q := ⟨_, rfl⟩
    rw [hqq] at hne hq hqs ⊢
    have H4 := Lib.hid h4
    have HQ := Lib.hid hq
    clear hqq h3 h4 hq hf3
    go_loopw [8] (fun i wr => ∃ k f, k ≤ 40 ∧ k ≤ len1 ∧ i = .int .i64 (k : Nat) ∧ Tg wr p g n f ∧ At wr q 27 (wantA f) ∧ Fr [] w wr) (fun i _ => 40 - (intOf i).toNat)
    case atStart => exact ⟨0, _, by omega, by omega, rfl, H4.out, HQ.out, hf2.trans0 hf4⟩
    case round =>
      obtain ⟨k, f, hk, hkl, rfl, ht, hw, hf⟩ := hrel
      by_cases hlt : k < len1 ∧ k < 40
      · exact absurd hlt.1 (by omega)
      · have hlt' : ¬ (k < len1) ∨ ¬ k < 40 := by omega
        obtain ⟨wo, rfl⟩ : ∃ wo : World, wo = wr := ⟨_, rfl⟩
        have Ht := Lib.hid ht
        have Hw := Lib.hid hw
        clear ht hw hlt
        have h1 : ¬ k < len1 := by omega
        iterate 1
          go_wp2
          go_loopw [11, 12] (fun c i wr => ∃ j m : Nat, j ≤ n ∧ i = .int .i64 j ∧ c = .int .i64 (cnt f j) ∧ wr = wo.drewN m) (fun _ i _ => n - (intOf i).toNat)
          case atStart => exact ⟨0, 0, by omega, rfl, rfl, rfl⟩
          case round =>
            obtain ⟨j, m, hj, rfl, rfl, rfl⟩ := hrel
            have hcl := cnt_le f j
            by_cases hjn : j < n
            · have hcj := (Hw.out.cell j).trans (wantA_get f j (by omega))
              cases hfj : f j
              · rw [hfj] at hcj
                have C := Lib.hid fun nq => get_is (Ht.out.drewN nq) (j : Int) false (by rw [inR_nat j n hjn]; simp [hfj])
                have Hn := Lib.hid (show cnt f (j + 1) = cnt f j by simp [cnt, hfj])
                clear hfj
                go_wp2
                go_quiet ((go_at_call 8; exact q_same_add (C.out _)))
                go_wp2
                go_roundw
                case rel => exact ⟨j + 1, _, by omega, by go_num, by rw [Hn.out], rfl⟩
                case measure => simp [intOf]; omega
              · rw [hfj] at hcj
                have C := Lib.hid fun nq => get_is (Ht.out.drewN nq) (j : Int) true (by rw [inR_nat j n hjn]; simp [hfj])
                have Hn := Lib.hid (show cnt f (j + 1) = cnt f j + 1 by simp [cnt, hfj])
                clear hfj
                go_wp2
                go_quiet ((go_at_call 8; exact q_same_add (C.out _)))
                go_wp2
                go_roundw
                case rel => exact ⟨j + 1, _, by omega, by go_num, by rw [Hn.out]; go_num, rfl⟩
                case measure => simp [intOf]; omega
            · obtain rfl : j = n := by omega
              have C1 := Lib.hid (count_any _ p g j f (Ht.out.drewN m))
              have C2 := Lib.hid (get_is (Ht.out.drewN m) (j : Int) false (by unfold inR; simp))
              have C3 := Lib.hid (get_is (Ht.out.drewN m) (-1) false (by unfold inR; simp))
              go_wp2_with fail
              refine (C1.out).mono ?_
              rintro e w' ⟨rfl, rfl⟩
              go_wp2_with fail
              refine (C2.out).mono ?_
              rintro e w' ⟨rfl, rfl⟩
              go_wp2_with fail
              refine (C3.out).mono ?_
              rintro e w' ⟨rfl, rfl⟩
              go_wp2_with fail
              go_ret
              exact ⟨rfl, hf.drewN _⟩
  · have hzv := zeroW
    go_enter Try.func3, Try.ntmps3
    go_wp2_with (first | (go_at_call 5; refine (works_any _).mono ?_; rintro e w2 ⟨rfl, hf2⟩) | (go_at_call 6; refine (new_any n _ (by omega)).mono ?_; rintro e w3 ⟨p, g, rfl, h3, hp, hg, hf3⟩))
    clear hzv
    have hws := hf2.size
    have hne : p ≠ w3.heap.size ∧ g ≠ w3.heap.size := by have := h3.lt; omega
    have hf4 := Fr.alloc hf3 (.cells (wantA fun _ => false) 27)
    have hq := At.new w3 27 (wantA fun _ => false)
    have h4 : Tg (w3.alloc (.cells (wantA fun _ => false) 27)) p g n (fun _ => false) := h3.fr (S := []) ((Fr.refl _ _).alloc _) (by simp) (by simp)
    have hqs : w2.heap.size ≤ w3.heap.size := hf3.size
    obtain ⟨q, hqq⟩ : ∃ q, w3.heap.size = q := ⟨_, rfl⟩
    rw [hqq] at hne hq hqs ⊢
    have H4 := Lib.hid h4
    have HQ := Lib.hid hq
    clear hqq h3 h4 hq hf3
    go_loopw [8] (fun i wr => ∃ k f, k ≤ 40 ∧ k ≤ len1 ∧ i = .int .i64 (k : Nat) ∧ Tg wr p g n f ∧ At wr q 27 (wantA f) ∧ Fr [] w wr) (fun i _ => 40 - (intOf i).toNat)
    case atStart => exact ⟨0, _, by omega, by omega, rfl, H4.out, HQ.out, hf2.trans0 hf4⟩
    case round =>
      obtain ⟨k, f, hk, hkl, rfl, ht, hw, hf⟩ := hrel
      by_cases hlt : k < len1 ∧ k < 40
      · obtain ⟨hl1, hl2⟩ := hlt
        have hck := (hf.cell (a := ⟨b, off + k, none⟩) hb (by simp)).trans (hc k hl1)
        obtain ⟨z, hzz⟩ : ∃ z, z1.getD k 0 = z := ⟨_, rfl⟩
        rw [hzz] at hck
        clear hzz
        obtain ⟨bb, hbb⟩ : ∃ bb, (bits .and .i64 z 1 == 0) = bb := ⟨_, rfl⟩
        have Ht := Lib.hid ht
        have Hw := Lib.hid hw
        have hqk := fun i hi => (hw.cell i).trans (wantA_get f i hi)
        have Hqk := Lib.hid hqk
        clear hqk
        by_cases hx : 0 ≤ z / 2 ∧ z / 2 < n
        · obtain ⟨hx1, hx2⟩ := hx
          obtain ⟨i, hi⟩ := Int.eq_ofNat_of_zero_le hx1
          have hin : i < n := by omega
          have C := Lib.hid (put_yes wr p g n f ht i bb hin)
          clear hx1 hx2 ht hw
          go_wp2_with (go_at_call 7; refine (C.out).mono ?_; rintro e w5 ⟨rfl, h5, hf5⟩; have hq5 := Hw.out.fr hf5 (by simp; omega); have qf := hq5.froz i; have qc := (hq5.cell i).trans (wantA_get f i (by omega)))
          go_roundw
          case rel =>
            refine ⟨k + 1, upd f i bb, by omega, by omega, by go_num, ?_, ?_, ?_⟩
            · exact h5.fr (S := [q]) ((Fr.refl _ _).set (.inl (by simp)) _) (by simp; omega) (by simp; omega)
            · have := hq5.set i (.bool bb)
              rw [wantA_set] at this
              exact this
            · exact (hf.trans hf5 (by simp; omega)).set (.inr (by show w.heap.size ≤ q; omega)) _
          case measure => simp [intOf]; omega
        · obtain ⟨x, hxe⟩ : ∃ x, z / 2 = x := ⟨_, rfl⟩
          rw [hxe] at hx
          have C := Lib.hid (put_no wr p g n f ht x bb (by unfold inR; simp; omega))
          by_cases hx0 : 0 ≤ x
          · have hx1 : ¬ x < n := by omega
            clear hx ht hw
            go_wp2_with (go_at_call 7; refine (C.out).mono ?_; rintro e w5 ⟨rfl, rfl⟩)
            go_roundw
            case rel => exact ⟨k + 1, f, by omega, by omega, by go_num, Ht.out, Hw.out, hf⟩
            case measure => simp [intOf]; omega
          · clear hx ht hw
            go_wp2_with (go_at_call 7; refine (C.out).mono ?_; rintro e w5 ⟨rfl, rfl⟩)
            go_roundw
            case rel => exact ⟨k + 1, f, by omega, by omega, by go_num, Ht.out, Hw.out, hf⟩
            case measure => simp [intOf]; omega
      · have hlt' : ¬ (k < len1) ∨ ¬ k < 40 := by omega
        obtain ⟨wo, rfl⟩ : ∃ wo : World, wo = wr := ⟨_, rfl⟩
        have Ht := Lib.hid ht
        have Hw := Lib.hid hw
        clear ht hw hlt
        by_cases h1 : k < len1
        all_goals
          have h2 : ¬ (k < len1 ∧ k < 40) := by omega
          go_wp2
          go_loopw [11, 12] (fun c i wr => ∃ j m : Nat, j ≤ n ∧ i = .int .i64 j ∧ c = .int .i64 (cnt f j) ∧ wr = wo.drewN m) (fun _ i _ => n - (intOf i).toNat)
          case atStart => exact ⟨0, 0, by omega, rfl, rfl, rfl⟩
          case round =>
            obtain ⟨j, m, hj, rfl, rfl, rfl⟩ := hrel
            have hcl := cnt_le f j
            by_cases hjn : j < n
            · have hcj := (Hw.out.cell j).trans (wantA_get f j (by omega))
              cases hfj : f j
              · rw [hfj] at hcj
                have C := Lib.hid fun nq => get_is (Ht.out.drewN nq) (j : Int) false (by rw [inR_nat j n hjn]; simp [hfj])
                have Hn := Lib.hid (show cnt f (j + 1) = cnt f j by simp [cnt, hfj])
                clear hfj
                go_wp2
                go_quiet ((go_at_call 8; exact q_same_add (C.out _)))
                go_wp2
                go_roundw
                case rel => exact ⟨j + 1, _, by omega, by go_num, by rw [Hn.out], rfl⟩
                case measure => simp [intOf]; omega
              · rw [hfj] at hcj
                have C := Lib.hid fun nq => get_is (Ht.out.drewN nq) (j : Int) true (by rw [inR_nat j n hjn]; simp [hfj])
                have Hn := Lib.hid (show cnt f (j + 1) = cnt f j + 1 by simp [cnt, hfj])
                clear hfj
                go_wp2
                go_quiet ((go_at_call 8; exact q_same_add (C.out _)))
                go_wp2
                go_roundw
                case rel => exact ⟨j + 1, _, by omega, by go_num, by rw [Hn.out]; go_num, rfl⟩
                case measure => simp [intOf]; omega
            · obtain rfl : j = n := by omega
              have C1 := Lib.hid (count_any _ p g j f (Ht.out.drewN m))
              have C2 := Lib.hid (get_is (Ht.out.drewN m) (j : Int) false (by unfold inR; simp))
              have C3 := Lib.hid (get_is (Ht.out.drewN m) (-1) false (by unfold inR; simp))
              go_wp2_with fail
              refine (C1.out).mono ?_
              rintro e w' ⟨rfl, rfl⟩
              go_wp2_with fail
              refine (C2.out).mono ?_
              rintro e w' ⟨rfl, rfl⟩
              go_wp2_with fail
              refine (C3.out).mono ?_
              rintro e w' ⟨rfl, rfl⟩
              go_wp2_with fail
              go_ret
              exact ⟨rfl, hf.drewN _⟩
theorem walk (a0 : Int) (w0 : (Lit.int .u16 a0).wf = true) (a1 : Option Addr) (len1 cap1 : Nat) (z1 : List Int) (w : World) (w1 : Ints .i64 w a1 len1 z1) :
    Calls Try.prog 3 #[.int .u16 a0, .slice a1 len1 cap1] w fun e w' => e = .returned (.bool true) ∧ Fr [] w w' := by
  have hb := bounds_u16 w0
  exact walk0 (a0 % 300).toNat (by omega) a1 len1 cap1 z1 w a0 (by omega) (by omega) (by omega) w1
theorem laidOut : laidOutB Try.prog = true := by kernel_rfl
set_option maxRecDepth 100000 in
theorem lifted (os : Os) (started : os.Started) (H : Type) (enc : TypeId × Value → H) :
    ReturnsInHanded {} Try.checked os 3 .any (Rows.tagsKeepSpec.pre6 enc Try.prog Try.f3 Rows.tagsKeepRow.domain false) (Rows.tagsKeepSpec.post enc Try.prog Try.f3 false true false false) := by
  refine returnsInHanded_of_change (C := Try.checked) own started (by kernel_rfl) Try.func3
    (ChangeSpec.witness6 (enc := enc) (C := Try.checked) false ⟨#[], #[.int .u16 0, .slice none 0 0], []⟩ 8 (by kernel_rfl) (by kernel_rfl) (by kernel_rfl) (by kernel_rfl)) ?_
  intro W base args ds gs before hval0 hW hcnd _
  have hval : ∀ (j : Nat) t v, Try.f3.params[j]? = some t → args[j]? = some v → Value.okWide Try.prog W .any base t v := hval0
  have hW' := hW
  obtain ⟨p, q, hA0, hV, rfl, hfz, hnd⟩ := hW
  have hA : DataW.TrodAll enc Try.prog W 0 (fun _ => true) true Try.f3.params.toList args.toList ds p := hA0
  rw [Try.params3] at hA hval
  obtain ⟨v0, vs0, d0, ds0, p0, q0, hargs, rfl, rfl, h0, r0⟩ := trodAll_cons hA
  obtain ⟨v1, vs1, d1, ds1, p1, q1, rfl, rfl, rfl, h1, r1⟩ := trodAll_cons r0
  obtain ⟨rfl, rfl, rfl⟩ := trodAll_nil r1
  obtain rfl : args = #[v0, v1] := by cases args; simp_all
  obtain ⟨rfl, rfl⟩ := trodVars_none hV
  obtain ⟨a0, rfl, rfl, rfl, w0⟩ := open_int Try.underlying22 (hval 0 22 v0 rfl rfl) h0
  obtain ⟨a1, len1, cap1, rfl⟩ := okWide_slice Try.underlying23 (hval 1 23 v1 rfl rfl)
  have k1 := h1
  have lt1 : ∀ x ∈ p1, x.block < W.heap.size := by obtain ⟨m, hm⟩ := k1; exact DataW.trod_lt m _ _ _ hm
  obtain ⟨z1, w1⟩ : ∃ zs, Ints .i64 W a1 len1 zs := by
    obtain ⟨fuel, hf⟩ := h1
    rcases open_ints Try.underlying23 Try.underlying3 (by kernel_rfl) hf with ⟨hcs, _⟩ | ⟨x, l, c, zs, hcs, _, hl, hm, hz, _, hcell, hwz⟩
    · simp [Value.cells] at hcs
      obtain ⟨rfl, rfl, rfl⟩ := hcs
      exact ⟨[], Ints.nil _⟩
    · simp [Value.cells] at hcs
      obtain ⟨rfl, rfl, rfl⟩ := hcs
      exact ⟨zs.take len1, Ints.of hl hm (by simpa using hz) hcell hwz⟩
  clear hA0 hval0
  refine (walk a0 w0 a1 len1 cap1 z1 W w1).mono fun e W' ⟨he, hg⟩ => ?_
  subst he
  have bel := hg.below
  exact ⟨_, rfl, _, _, _, [], _, [], hW', trodAll_mk1 (shut_bool Try.underlying4 _), (trodAll_cons_mk (shut_int Try.underlying22 w0) (trodAll_cons_mk (Below.trod laidOut (by kernel_rfl) (of_decide_eq_true (by kernel_rfl)) k1 bel lt1) trodAll_mk0)), rfl, bel.frame _, fun h => by cases h⟩
theorem over : Rows.tagsKeepRow.holds Try.pinned (OpenSpec.ofChange Rows.tagsKeepSpec) :=
  OpenClaim.holds_of_wide 3 Try.f3 rfl rfl rfl rfl rfl rfl rfl ⟨rfl, rfl, rfl, rfl, rfl⟩ rfl rfl rfl rfl rfl (by kernel_rfl) Try.func3 (by kernel_rfl)
    (of_decide_eq_true (by kernel_rfl)) (by unfold Func.isWrapper; first | (rw [if_pos (by decide +kernel)]; kernel_rfl) | (rw [if_neg (by decide +kernel)]; exact ⟨rfl, rfl⟩))
    (fun os started H enc _ => lifted os started H enc)
/-- The statement, proved. -/
theorem proved : Rows.TagsKeepSaid :=
  over
end tagsKeep
end Go.Proofs.Ytgbffcbkipecnaa
