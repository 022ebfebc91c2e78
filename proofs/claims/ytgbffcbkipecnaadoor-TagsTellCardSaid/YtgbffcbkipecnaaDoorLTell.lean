/-
  TagsTell: all that is set is told, rising, each once, as often as it is asked; a copy goes its own way. Condition: the table of math/bits is as the library lays it (the row lists it).
-/


import Derived.Test.YtgbffcbkipecnaaDoorWorks
import Derived.Test.YtgbffcbkipecnaaDoorAll
import Derived.Test.YtgbffcbkipecnaaDoorDoor
import Derived.Deep.RegionHeld3
set_option linter.unusedVariables false
namespace Go.Proofs.YtgbffcbkipecnaaDoor
open Go.ChangeShapes Go.WideShapes Go.ChangeAt Go.RowKit
attribute [local go_sem] Oper.semAt_some
namespace tagsTell
theorem told_count (f : Nat → Bool) : ∀ n, (told f n).length = cnt f n
  | 0 => rfl
  | n + 1 => by
    rw [told_succ]
    simp only [cnt]
    by_cases h : f n = true
    · rw [if_pos h, if_pos h, List.length_append, told_count f n]; rfl
    · rw [if_neg h, if_neg h, told_count f n]; rfl
/-- Rising, each beyond what came before, and each set. -/
def lastI : List Nat → Int := fun pre => match pre.getLast? with | none => -1 | some x => (x : Nat)
theorem lastI_snoc (pre : List Nat) (x : Nat) : lastI (pre ++ [x]) = x := by unfold lastI; simp
def good (f : Nat → Bool) (pre : List Nat) : Prop := ∀ (p : List Nat) (x : Nat), (p ++ [x]) <+: pre → lastI p < (x : Nat) ∧ f x = true
theorem good_nil (f : Nat → Bool) : good f [] := fun p x h => by
  have := List.prefix_nil.1 h
  simp at this
theorem good_snoc {f : Nat → Bool} {pre : List Nat} {x : Nat} (h : good f pre) (h1 : lastI pre < x) (h2 : f x = true) : good f (pre ++ [x]) := fun p y hp => by
  rcases List.prefix_concat_iff.1 hp with h3 | h3
  · obtain ⟨rfl, h4⟩ := List.append_inj' h3 rfl
    injection h4 with h4
    subst h4
    exact ⟨h1, h2⟩
  · exact h p y h3
theorem good_told (f : Nat → Bool) : ∀ n, good f (told f n) ∧ lastI (told f n) < n
  | 0 => ⟨good_nil f, by simp [told, lastI]⟩
  | n + 1 => by
    obtain ⟨h1, h2⟩ := good_told f n
    rw [told_succ]
    by_cases h : f n = true
    · rw [if_pos h]
      exact ⟨good_snoc h1 h2 h, by rw [lastI_snoc]; omega⟩
    · rw [if_neg h]
      exact ⟨h1, by omega⟩
theorem good_len (f : Nat → Bool) : ∀ (n : Nat) (pre : List Nat), pre.length = n → good f pre → (n : Int) ≤ lastI pre + 1
  | 0, pre, h, _ => by
    obtain rfl := List.length_eq_zero_iff.1 h
    simp [lastI]
  | n + 1, pre, h, hg => by
    rcases List.eq_nil_or_concat pre with rfl | ⟨p, x, hp⟩
    · simp at h
    · obtain rfl : pre = p ++ [x] := by simpa using hp
      have h1 := good_len f n p (by simpa using h) (fun p' y hp => hg p' y (hp.trans (List.prefix_append _ _)))
      have h2 := (hg p x (List.prefix_refl _)).1
      rw [lastI_snoc]
      omega
theorem bad_stop {f : Nat → Bool} {n : Nat} {pre : List Nat} {x : Nat} (h : pre ++ [x] <+: told f n) (hb : ¬ (lastI pre < x ∧ f x = true)) : False :=
  hb ((good_told f n).1 pre x h)
set_option maxHeartbeats 1000000 in
set_option maxRecDepth 100000 in
theorem walk0 (a1 : Option Addr) (b off len1 cap1 : Nat) (z1 : List Int) (w : World) (hT : Tab w) (ha1 : len1 = 0 ∨ a1 = some ⟨b, off, none⟩) (hlen : len1 ≤ 9223372036854775807) (hzl : z1.length = len1) (hwf : ∀ z ∈ z1, (Lit.int .u16 z).wf = true) (hb : 0 < len1 → b < w.heap.size) (hc : ∀ i, i < len1 → w.cell? ⟨b, off + i, none⟩ = some (.int .u16 (z1.getD i 0))) :
    Calls Tryd.prog 3 #[.slice a1 len1 cap1] w fun e w' => e = .returned (.bool true) ∧ Fr [] w w' := by
  have Hc := Lib.hid fun i (hi : i < len1) => show ∃ z : Int, w.cell? ⟨b, off + i, none⟩ = some (.int .u16 z) ∧ 0 ≤ z ∧ z ≤ 65535 from
    ⟨_, hc i hi, by
      have := bounds_u16 (hwf (z1.getD i 0) (by
        rw [List.getD_eq_getElem?_getD, List.getElem?_eq_getElem (by rw [hzl]; exact hi)]
        exact List.getElem_mem _))
      exact this⟩
  have Hb := Lib.hid hb
  have HA1 := Lib.hid ha1
  have HT := Lib.hid hT
  clear hc hwf hzl hb ha1 hT
  have A2 := Lib.hid (At.new w 4 #[.bool false])
  have F2 := Lib.hid (show Fr [] w (w.alloc (.cells #[.bool false] 4)) from (by repeat (first | exact Fr.refl _ _ | assumption | refine Fr.trans0 ?_ (by assumption) | refine Fr.drewN ?_ _ | refine Fr.alloc ?_ _ | refine Fr.drew ?_)))
  refine (callsIn_wide (n := 3)).1 ?_
  refine callsIn_of_wp_marks Tryd.func3 rfl trivial ?_ rfl
  simp only [Tryd.ntmps3, List.size_toArray, List.length_cons, List.length_nil, Nat.reduceAdd, Nat.reduceSub, Array.replicate_succ, Array.replicate_zero, List.push_toArray, List.append_toArray, List.nil_append, List.cons_append]
  refine wpIn_wide.2 ?_
  go_wp2_with fail
  refine (works_any _).mono ?_
  rintro e w2 ⟨rfl, hf2⟩
  have A2' := Lib.hid (A2.out.fr hf2 (by simp))
  have F2' := Lib.hid (F2.out.trans0 hf2)
  go_wp2_with fail
  refine (new_any 300 _ (by omega)).mono ?_
  rintro e w3 ⟨p, g, rfl, h3, hp, hg, hf3⟩
  have hs2 := A2'.out.lt
  have hl3 := h3.lt
  go_wp2_with fail
  have hA := At.new w3 24 #[.pointer (some ⟨p, 0, none⟩)]
  have hfa : Fr [] w3 (w3.alloc (.cells #[.pointer (some ⟨p, 0, none⟩)] 24)) := (by repeat (first | exact Fr.refl _ _ | assumption | refine Fr.trans0 ?_ (by assumption) | refine Fr.drewN ?_ _ | refine Fr.alloc ?_ _ | refine Fr.drew ?_))
  have H3 := Lib.hid (h3.fr hfa (by simp) (by simp))
  have A3 := Lib.hid ((A2'.out.fr hf3 (by simp)).fr hfa (by simp))
  have F3 := Lib.hid ((F2'.out.trans0 hf3).trans0 hfa)
  obtain ⟨q3, hq3⟩ : ∃ q, w3.heap.size = q := ⟨_, rfl⟩
  rw [hq3] at hA hl3 ⊢
  have HA0 := Lib.hid hA
  have hgs : w.heap.size < p ∧ w.heap.size < g := by omega
  clear hA hq3 h3 hf3 hfa hf2 A2 A2' F2 F2' hp hg
  go_loopw [4] (fun i wr => ∃ (k : Nat) (f : Nat → Bool), k ≤ 40 ∧ i = .int .i64 k ∧ Tg wr p g 300 f ∧ At wr q3 24 #[.pointer (some ⟨p, 0, none⟩)] ∧ At wr w.heap.size 4 #[.bool false] ∧ Fr [] w wr) (fun i _ => 40 - (intOf i).toNat)
  case atStart => exact ⟨0, _, by omega, rfl, H3.out, HA0.out, A3.out, F3.out⟩
  case round =>
    clear H3 HA0 A3 F3
    obtain ⟨k, f, hk, rfl, ht, hq, hr2, hf⟩ := hrel
    have HTg := Lib.hid ht
    have HQ := Lib.hid hq
    have HR := Lib.hid hr2
    have HF := Lib.hid hf
    clear ht hq hr2
    by_cases hlt : k < len1 ∧ k < 40
    · obtain ⟨h1, h2⟩ := hlt
      obtain rfl : a1 = some ⟨b, off, none⟩ := HA1.out.resolve_left (by omega)
      obtain ⟨z, hz, z0, z1'⟩ := Hc.out k h1
      replace hz := (hf.cell (a := ⟨b, _, none⟩) (Hb.out (by omega)) (by simp)).trans hz
      obtain ⟨Z, hZ⟩ := Int.eq_ofNat_of_zero_le (show 0 ≤ z % 300 by omega)
      have c3 := HQ.out.cell 0
      simp only [List.getElem?_toArray, List.getElem?_cons_zero] at c3
      have C := Lib.hid fun (W : World) (hW : W.heap = wr.heap) => put_yes W p g 300 f (HTg.out.heap hW) Z true (by omega)
      clear hf
      go_wp2
      have htm : z.tmod 300 = (Z : Int) := by rw [Int.tmod_eq_emod_of_nonneg z0]; exact hZ
      have HW := Lib.hid (show IntKind.i64.wrap (Z : Int) = Z from IntWalk.i64_in _ (by omega))
      have hqn : q3 ≠ g := by omega
      have hbn : b ≠ g := by have := Hb.out (by omega); omega
      have HZB := Lib.hid hz
      go_region_held3 (fun w' => w'.cell? ⟨q3, 0, none⟩ = some (.pointer (some ⟨p, 0, none⟩)) ∧ w'.cell? ⟨b, off + k, none⟩ = some (.int .u16 z)) (first | exact ⟨c3, hz⟩ | exact d3 | go_keep) ((go_at_call 6; rw [HW.out]; refine (C.out _ (by rfl)).mono ?_; rintro e w5 ⟨rfl, h5, hf5⟩; have d3 : w5.cell? ⟨q3, 0, none⟩ = some (.pointer (some ⟨p, 0, none⟩)) ∧ w5.cell? ⟨b, off + k, none⟩ = some (.int .u16 z) := ⟨(hf5.cell (a := ⟨q3, 0, none⟩) (by first | exact lt_of_cell c3) (by simp; exact hqn)).trans c3, (hf5.cell (a := ⟨b, off + k, none⟩) (by first | exact lt_of_cell HZB.out) (by simp; exact hbn)).trans HZB.out⟩))
      all_goals
        go_wp2
        go_roundw
        case rel => exact ⟨k + 1, _, by omega, by go_num, h5, HQ.out.frh hf5 rfl (by simp; omega), HR.out.frh hf5 rfl (by simp; omega), HF.out.trans (hf5.hd rfl rfl rfl rfl) (by simp; omega)⟩
        case measure => simp [intOf]; omega
    · have h5 : ¬ (k < len1 ∧ k < 40) := hlt
      clear hf
      have c3 := HQ.out.cell 0
      simp only [List.getElem?_toArray, List.getElem?_cons_zero] at c3
      by_cases h1 : k < len1
      ·
        go_wp2_with fail
        refine (all_any wr p g 300 f HTg.out).mono ?_
        rintro e w4 ⟨q, p', g', rfl, hq4, ht4, hqs, hps, hgs', hqp, hqg, hf4⟩
        have HQ4 := Lib.hid (HQ.out.fr hf4 (by simp))
        have HR4 := Lib.hid (HR.out.fr hf4 (by simp))
        have HT4 := Lib.hid (HTg.out.fr hf4 (by simp) (by simp))
        have HF4 := Lib.hid (HF.out.trans0 hf4)
        have c3 := HQ4.out.cell 0
        simp only [List.getElem?_toArray, List.getElem?_cons_zero] at c3
        go_wp2_with fail
        refine (copy_any _ p g 300 f HT4.out).mono ?_
        rintro e w5 ⟨pc, gc, rfl, h5c, hpc, hgc, hf5⟩
        go_wp2_with fail
        refine (clear_any _ pc gc 300 f h5c 0 300).mono ?_
        rintro e w6 ⟨rfl, h6, hf6⟩
        have hl4 := ht4.lt
        have hl4q := hq4.lt
        have hlT := HT4.out.lt
        have hlQ := HQ4.out.lt
        have hlR := HR4.out.lt
        have HQ6 := Lib.hid ((HQ4.out.fr hf5 (by simp)).fr hf6 (by simp; omega))
        have HR6 := Lib.hid ((HR4.out.fr hf5 (by simp)).fr hf6 (by simp; omega))
        have HT6 := Lib.hid ((HT4.out.fr hf5 (by simp) (by simp)).fr hf6 (by simp; omega) (by simp; omega))
        have HI6 := Lib.hid ((ht4.fr hf5 (by simp) (by simp)).fr hf6 (by simp; omega) (by simp; omega))
        have Hq6 := Lib.hid ((hq4.fr hf5 (by simp)).fr hf6 (by simp; omega))
        have HC6 := Lib.hid h6
        have HF6 := Lib.hid ((HF4.out.trans0 hf5).trans hf6 (by simp; have := HF4.out.size; omega))
        have c3 := HQ6.out.cell 0
        simp only [List.getElem?_toArray, List.getElem?_cons_zero] at c3
        clear hf4 hf5 hf6 HQ HR HTg HF HQ4 HR4 HT4 HF4 h5c h6 hq4 ht4
        go_wp2_with fail
        refine wp_loop_rounds 3 ?_
        rw [rounds_succ]
        go_wp2_with fail
        have hA8 := (At.new w6 3 #[.int .i64 (-1)]).old (.cells #[.int .i64 0] 3)
        have hA9 := At.new (w6.alloc (.cells #[.int .i64 (-1)] 3)) 3 #[.int .i64 0]
        simp only [World.size_alloc] at hA9
        have HFA : Fr [] w6 ((w6.alloc (.cells #[.int .i64 (-1)] 3)).alloc (.cells #[.int .i64 0] 3)) := (by repeat (first | exact Fr.refl _ _ | assumption | refine Fr.trans0 ?_ (by assumption) | refine Fr.drewN ?_ _ | refine Fr.alloc ?_ _ | refine Fr.drew ?_))
        have hst := all_stops (3 - 1) q p' g' 300 f _ (Hq6.out.fr HFA (by simp)) (HI6.out.fr HFA (by simp) (by simp)) ((HT.out.fr HF6.out (by simp)).fr HFA (by simp))
        refine (wpIn_wide (n := 3)).1 ?_
        refine wpIn_rangeFunc_ownF rfl (by omega) (gf := 15) (lb := #[.pointer (some ⟨q, 0, none⟩)]) rfl trivial (enters_of Tryd.func15 (by kernel_rfl) rfl) hst kpB_t kpB_b (Below.refl _ _) (fun _ => rfl)
          (fun pre V => good f pre ∧ At V w6.heap.size 3 #[.int .i64 (lastI pre)] ∧ At V (w6.heap.size + 1) 3 #[.int .i64 pre.length] ∧ Fr [] w6 V)
          (fun c pre V => ∃ (p0 : List Nat) (x : Nat), pre = p0 ++ [x] ∧ ¬ (lastI p0 < (x : Nat) ∧ f x = true))
          (fun x A B row hs hg hr => ⟨hs.1, atK_grown hg (fun r e => (hr r e).2) _ _ _ hs.2.1, atK_grown hg (fun r e => (hr r e).2) _ _ _ hs.2.2.1, hs.2.2.2.row hg HFA.size hr⟩)
          (fun c x A B row hs hg hr => hs)
          ⟨good_nil f, hA8, hA9, HFA⟩ ?a1x ?assignx ?bodyx ?donex ?stopx
        case assignx =>
          intro l x V K hK
          gi_wp2
          exact hK
        case stopx =>
          rintro D c pre V hD hpre ⟨p0, x, rfl, hb⟩ hK
          exact (bad_stop hpre hb).elim
        case bodyx =>
          rintro l pre x V ⟨hgd, h8, h9, hF⟩ _
          have H8 := Lib.hid h8
          have H9 := Lib.hid h9
          have HVT := Lib.hid (HT6.out.fr hF (by simp) (by simp))
          have HV3 := (HQ6.out.fr hF (by simp)).cell 0
          have HV2 := HR6.out.fr hF (by simp)
          have c8 := h8.cell 0
          have c9 := h9.cell 0
          have f8 := h8.froz 0
          have f9 := h9.froz 0
          simp only [List.getElem?_toArray, List.getElem?_cons_zero] at c8 c9 HV3
          have C := Lib.hid (get_any V p g 300 f HVT.out (x : Nat))
          have HS := Lib.hid (lastI_snoc pre x)
          by_cases hb : lastI pre < (x : Nat) ∧ f x = true
          · obtain ⟨hb1, hb2⟩ := hb
            have hx : x < 300 := by
              rcases Nat.lt_or_ge x 300 with h | h
              · exact h
              · rw [HVT.out.2.2.1 x h] at hb2; cases hb2
            have HGD := Lib.hid (good_snoc hgd hb1 hb2)
            rw [inR_nat _ _ hx, Int.toNat_natCast, hb2] at C
            obtain ⟨La, hLa⟩ : ∃ La, lastI pre = La := ⟨_, rfl⟩
            obtain ⟨m, hm⟩ : ∃ m, pre.length = m := ⟨_, rfl⟩
            have HLM := Lib.hid (And.intro hLa hm)
            rw [hLa] at c8 hb1
            rw [hm] at c9
            have hml := good_len f m pre hm hgd
            rw [hLa] at hml
            have hmm : m ≤ 300 := by omega
            clear hml
            have hnle : ¬ ((x : Nat) : Int) ≤ La := by omega
            have HFF := Lib.hid hF
            clear hgd h8 h9 hF hb1 hb2 HV2 hLa hm
            gi_wp2
            refine ⟨trivial, CallsIn.inRound l ((callsIn_wide (n := 0)).2 ((C.out).mono ?_))⟩
            rintro e w' ⟨rfl, rfl⟩
            gi_wp2
            have hTl := HT.out.lt
            have hws := HF6.out.size
            have hlq6 := Hq6.out.lt
            have hlI6 := HI6.out.lt
            have hfs : Fr [w6.heap.size, w6.heap.size + 1] V ((V.setCell ⟨w6.heap.size, 0, none⟩ (.int .i64 (x : Nat))).setCell ⟨w6.heap.size + 1, 0, none⟩ (.int .i64 ((m : Int) + 1))) := ((Fr.refl _ _).set (.inl (by simp)) _).set (.inl (by simp)) _
            refine ⟨hfs.keepsFrom (by simp; exact ⟨⟨_, _, H8.out⟩, _, _, H9.out⟩), kpB_fr hfs (by simp; omega), HGD.out, ?_, ?_, HFF.out.trans hfs (by simp)⟩
            · rw [HS.out]; exact (H8.out.set 0 _).far (show w6.heap.size ≠ w6.heap.size + 1 by omega) _
            · rw [List.length_append, List.length_singleton, HLM.out.2]; exact (H9.out.far (show w6.heap.size + 1 ≠ w6.heap.size by omega) _).set 0 _
          · have HBD := Lib.hid hb
            have z2 := HV2.cell 0
            have y2 := HV2.froz 0
            simp only [List.getElem?_toArray, List.getElem?_cons_zero] at z2
            have hfs : Fr [w.heap.size] V (V.setCell ⟨w.heap.size, 0, none⟩ (.bool false)) := (Fr.refl _ _).set (.inl (by simp)) _
            have HR2 := Lib.hid HV2
            obtain ⟨La, hLa⟩ : ∃ La, lastI pre = La := ⟨_, rfl⟩
            rw [hLa] at c8 hb
            clear hLa hgd h8 h9 hF HV2
            by_cases hle : ((x : Nat) : Int) ≤ La
            · clear hb C
              gi_wp2
              refine ⟨trivial, ?_⟩
              gi_wp2
              exact ⟨hfs.keepsFrom (by simp; exact ⟨_, _, HR2.out⟩), pre, x, rfl, HBD.out⟩
            · have hfx : f x = false := by
                cases e : f x with
                | false => rfl
                | true => exact absurd ⟨by omega, e⟩ hb
              rw [Int.toNat_natCast, hfx, Bool.and_false] at C
              clear hb hfx
              gi_wp2
              refine ⟨trivial, CallsIn.inRound l ((callsIn_wide (n := 0)).2 ((C.out).mono ?_))⟩
              rintro e w' ⟨rfl, rfl⟩
              gi_wp2
              exact ⟨hfs.keepsFrom (by simp; exact ⟨_, _, HR2.out⟩), pre, x, rfl, HBD.out⟩
        case donex =>
          rintro D xs V hD hxs ⟨hgd, h8, h9, hF⟩ hK
          have HVT := Lib.hid (HT6.out.fr hF (by simp) (by simp))
          have HV3 := (HQ6.out.fr hF (by simp)).cell 0
          have c9 := h9.cell 0
          simp only [List.getElem?_toArray, List.getElem?_cons_zero] at c9 HV3
          rw [hxs, told_count f 300] at c9
          have HFF := Lib.hid hF
          have HK := Lib.hid hK
          have C := Lib.hid fun nq => count_any (V.drewN nq) p g 300 f (HVT.out.drewN nq)
          have hii : ∀ i : Int, (i != i) = false := fun i => by simp
          obtain ⟨cc, hcc⟩ : ∃ c, cnt f 300 = c := ⟨_, rfl⟩
          rw [hcc] at c9 C
          clear hgd h8 h9 hF hK hxs hcc
          go_wp2
          go_quiet ((go_at_call 11; exact q_same (C.out _)))
          go_wp2_with fail
          obtain ⟨w8, hw8⟩ : ∃ X, V.drewN nq = X := ⟨_, rfl⟩
          have F68 : Fr [] w6 w8 := by rw [← hw8]; exact HFF.out.drewN nq
          have K8 : w8.heap[D]? = some (.deferred (some [])) := by rw [← hw8]; exact HK.out
          rw [hw8]
          clear hw8 c9 HV3 C HVT HFF HK hii
          have c3 := (HQ6.out.fr F68 (by simp)).cell 0
          simp only [List.getElem?_toArray, List.getElem?_cons_zero] at c3
          rw [rounds_succ]
          go_wp2_with fail
          have hA8 := (At.new w8 3 #[.int .i64 (-1)]).old (.cells #[.int .i64 0] 3)
          have hA9 := At.new (w8.alloc (.cells #[.int .i64 (-1)] 3)) 3 #[.int .i64 0]
          simp only [World.size_alloc] at hA9
          have HFA : Fr [] w6 ((w8.alloc (.cells #[.int .i64 (-1)] 3)).alloc (.cells #[.int .i64 0] 3)) := (F68.alloc _).alloc _
          have KA := Lib.hid ((((Fr.refl [] w8).alloc (.cells #[.int .i64 (-1)] 3)).alloc (.cells #[.int .i64 0] 3)).keep D (Array.getElem?_eq_some_iff.1 K8).1 (by simp) |>.trans K8)
          have hDw8 := (Array.getElem?_eq_some_iff.1 K8).1
          have hs68 := F68.size
          have hst := all_stops (3 - 1) q p' g' 300 f _ (Hq6.out.fr HFA (by simp)) (HI6.out.fr HFA (by simp) (by simp)) ((HT.out.fr HF6.out (by simp)).fr HFA (by simp))
          refine (wpIn_wide (n := 3)).1 ?_
          refine wpIn_rangeFunc_ownF rfl (by omega) (gf := 15) (lb := #[.pointer (some ⟨q, 0, none⟩)]) rfl trivial (enters_of Tryd.func15 (by kernel_rfl) rfl) hst kpB_t kpB_b (Below.refl _ _) (fun _ => rfl)
            (fun pre V => (good f pre ∧ At V w8.heap.size 3 #[.int .i64 (lastI pre)] ∧ At V (w8.heap.size + 1) 3 #[.int .i64 pre.length] ∧ Fr [] w6 V) ∧ V.heap[D]? = some (.deferred (some [])))
            (fun c pre V => ∃ (p0 : List Nat) (x : Nat), pre = p0 ++ [x] ∧ ¬ (lastI p0 < (x : Nat) ∧ f x = true))
            (fun x A B row hs hg hr => ⟨⟨hs.1.1, atK_grown hg (fun r e => (hr r e).2) _ _ _ hs.1.2.1, atK_grown hg (fun r e => (hr r e).2) _ _ _ hs.1.2.2.1, hs.1.2.2.2.row hg HFA.size hr⟩, (hg.block D (Array.getElem?_eq_some_iff.1 hs.2).1 (fun e => by have := (hr D e.symm).1; simp only [World.size_alloc] at this; omega)).trans hs.2⟩)
            (fun c x A B row hs hg hr => hs)
            ⟨⟨good_nil f, hA8, hA9, HFA⟩, KA.out⟩ ?a12x ?assign2x ?body2x ?done2x ?stop2x
          case assign2x =>
            intro l x V K hK
            gi_wp2
            exact hK
          case stop2x =>
            rintro D2 c pre V hD hpre ⟨p0, x, rfl, hb⟩ hK
            exact (bad_stop hpre hb).elim
          case body2x =>
            rintro l pre x V ⟨⟨hgd, h8, h9, hF⟩, hD0⟩ _
            have HD0 := Lib.hid hD0
            clear hD0
            have H8 := Lib.hid h8
            have H9 := Lib.hid h9
            have HVT := Lib.hid (HT6.out.fr hF (by simp) (by simp))
            have HV3 := (HQ6.out.fr hF (by simp)).cell 0
            have HV2 := HR6.out.fr hF (by simp)
            have c8 := h8.cell 0
            have c9 := h9.cell 0
            have f8 := h8.froz 0
            have f9 := h9.froz 0
            simp only [List.getElem?_toArray, List.getElem?_cons_zero] at c8 c9 HV3
            have C := Lib.hid (get_any V p g 300 f HVT.out (x : Nat))
            have HS := Lib.hid (lastI_snoc pre x)
            by_cases hb : lastI pre < (x : Nat) ∧ f x = true
            · obtain ⟨hb1, hb2⟩ := hb
              have hx : x < 300 := by
                rcases Nat.lt_or_ge x 300 with h | h
                · exact h
                · rw [HVT.out.2.2.1 x h] at hb2; cases hb2
              have HGD := Lib.hid (good_snoc hgd hb1 hb2)
              rw [inR_nat _ _ hx, Int.toNat_natCast, hb2] at C
              obtain ⟨La, hLa⟩ : ∃ La, lastI pre = La := ⟨_, rfl⟩
              obtain ⟨m, hm⟩ : ∃ m, pre.length = m := ⟨_, rfl⟩
              have HLM := Lib.hid (And.intro hLa hm)
              rw [hLa] at c8 hb1
              rw [hm] at c9
              have hml := good_len f m pre hm hgd
              rw [hLa] at hml
              have hmm : m ≤ 300 := by omega
              clear hml
              have hnle : ¬ ((x : Nat) : Int) ≤ La := by omega
              have HFF := Lib.hid hF
              clear hgd h8 h9 hF hb1 hb2 HV2 hLa hm
              gi_wp2
              refine ⟨trivial, CallsIn.inRound l ((callsIn_wide (n := 0)).2 ((C.out).mono ?_))⟩
              rintro e w' ⟨rfl, rfl⟩
              gi_wp2
              have hTl := HT.out.lt
              have hws := HF6.out.size
              have hlq6 := Hq6.out.lt
              have hlI6 := HI6.out.lt
              have hfs : Fr [w8.heap.size, w8.heap.size + 1] V ((V.setCell ⟨w8.heap.size, 0, none⟩ (.int .i64 (x : Nat))).setCell ⟨w8.heap.size + 1, 0, none⟩ (.int .i64 ((m : Int) + 1))) := ((Fr.refl _ _).set (.inl (by simp)) _).set (.inl (by simp)) _
              refine ⟨hfs.keepsFrom (by simp; exact ⟨⟨_, _, H8.out⟩, _, _, H9.out⟩), kpB_fr hfs (by simp; omega), ⟨HGD.out, ?_, ?_, HFF.out.trans hfs (by simp; omega)⟩, (hfs.keep D (Array.getElem?_eq_some_iff.1 HD0.out).1 (by simp; omega)).trans HD0.out⟩
              · rw [HS.out]; exact (H8.out.set 0 _).far (show w8.heap.size ≠ w8.heap.size + 1 by omega) _
              · rw [List.length_append, List.length_singleton, HLM.out.2]; exact (H9.out.far (show w8.heap.size + 1 ≠ w8.heap.size by omega) _).set 0 _
            · have HBD := Lib.hid hb
              have z2 := HV2.cell 0
              have y2 := HV2.froz 0
              simp only [List.getElem?_toArray, List.getElem?_cons_zero] at z2
              have hfs : Fr [w.heap.size] V (V.setCell ⟨w.heap.size, 0, none⟩ (.bool false)) := (Fr.refl _ _).set (.inl (by simp)) _
              have HR2 := Lib.hid HV2
              obtain ⟨La, hLa⟩ : ∃ La, lastI pre = La := ⟨_, rfl⟩
              rw [hLa] at c8 hb
              clear hLa hgd h8 h9 hF HV2
              by_cases hle : ((x : Nat) : Int) ≤ La
              · clear hb C
                gi_wp2
                refine ⟨trivial, ?_⟩
                gi_wp2
                exact ⟨hfs.keepsFrom (by simp; exact ⟨_, _, HR2.out⟩), pre, x, rfl, HBD.out⟩
              · have hfx : f x = false := by
                  cases e : f x with
                  | false => rfl
                  | true => exact absurd ⟨by omega, e⟩ hb
                rw [Int.toNat_natCast, hfx, Bool.and_false] at C
                clear hb hfx
                gi_wp2
                refine ⟨trivial, CallsIn.inRound l ((callsIn_wide (n := 0)).2 ((C.out).mono ?_))⟩
                rintro e w' ⟨rfl, rfl⟩
                gi_wp2
                exact ⟨hfs.keepsFrom (by simp; exact ⟨_, _, HR2.out⟩), pre, x, rfl, HBD.out⟩
          case done2x =>
            rintro D2 xs V hD2 hxs ⟨⟨hgd, h8, h9, hF⟩, hD0⟩ hK2
            have HVT := Lib.hid (HT6.out.fr hF (by simp) (by simp))
            have HVC := Lib.hid (HC6.out.fr hF (by simp) (by simp))
            have HVR := Lib.hid (HR6.out.fr hF (by simp))
            have HV3 := (HQ6.out.fr hF (by simp)).cell 0
            have z2 := HVR.out.cell 0
            have y2 := HVR.out.froz 0
            have c9 := h9.cell 0
            simp only [List.getElem?_toArray, List.getElem?_cons_zero] at c9 HV3 z2
            rw [hxs, told_count f 300] at c9
            have HFF := Lib.hid hF
            have HK1 := Lib.hid hD0
            have HK2 := Lib.hid hK2
            have hDD : D ≠ D2 := by simp only [World.size_alloc] at hD2; omega
            have hDw : w.heap.size ≤ D := by have := HF6.out.size; simp only [World.size_alloc] at hD; omega
            have hD2w : w.heap.size ≤ D2 := by have := HF6.out.size; simp only [World.size_alloc] at hD2; omega
            have C := Lib.hid fun nq => count_any (V.drewN nq) p g 300 f (HVT.out.drewN nq)
            have hii : ∀ i : Int, (i != i) = false := fun i => by simp
            obtain ⟨cc, hcc⟩ : ∃ c, cnt f 300 = c := ⟨_, rfl⟩
            rw [hcc] at c9 C
            clear hgd h8 h9 hF hD0 hK2 hxs hcc
            go_wp2
            go_quiet ((go_at_call 11; exact q_same (C.out _)))
            go_wp2_with fail
            rw [rounds_succ]
            go_wp2_with fail
            refine (count_is (HVC.out.drewN nq) 0 (cnt_zero _ _ fun i hi => by unfold clr; simp; omega)).mono ?_
            rintro e w' ⟨rfl, rfl⟩
            go_wp2
            have hko := KeepsOthers.setCell (V.drewN nq) ⟨w.heap.size, 0, none⟩ (.bool true)
            have hK2 := hko.same D2 _ HK2.out rfl
            have hK1 := hko.same D _ HK1.out rfl
            have hK1 := (World.putObj_heap_other (w := (V.drewN nq).setCell ⟨w.heap.size, 0, none⟩ (.bool true)) (o := .deferred none) hDD).trans hK1
            have hRs := (HVR.out.drewN nq).set 0 (.bool true)
            have hFs := (((HF6.out.trans0 HFF.out).drewN nq).set (a := ⟨w.heap.size, 0, none⟩) (.inr (Nat.le_refl _)) (.bool true))
            refine ⟨by simp, .inl ⟨_, _, rfl, run_takeDeferred hK2, by simp, .inl ⟨_, _, rfl, run_takeDeferred hK1, ?_⟩⟩⟩
            have hk2 := atK_put (.deferred none) hK2 rfl
            have hk1 := atK_put (.deferred none) hK1 rfl
            have hc5 := (hk1 _ _ _ (hk2 _ _ _ hRs)).cell 0
            exact ⟨.bool true, by simp [results, Tryd.results3, go_sem, hc5], rfl, (hFs.putObj D2 _ hD2w).putObj D _ hDw⟩
      ·
        go_wp2_with fail
        refine (all_any wr p g 300 f HTg.out).mono ?_
        rintro e w4 ⟨q, p', g', rfl, hq4, ht4, hqs, hps, hgs', hqp, hqg, hf4⟩
        have HQ4 := Lib.hid (HQ.out.fr hf4 (by simp))
        have HR4 := Lib.hid (HR.out.fr hf4 (by simp))
        have HT4 := Lib.hid (HTg.out.fr hf4 (by simp) (by simp))
        have HF4 := Lib.hid (HF.out.trans0 hf4)
        have c3 := HQ4.out.cell 0
        simp only [List.getElem?_toArray, List.getElem?_cons_zero] at c3
        go_wp2_with fail
        refine (copy_any _ p g 300 f HT4.out).mono ?_
        rintro e w5 ⟨pc, gc, rfl, h5c, hpc, hgc, hf5⟩
        go_wp2_with fail
        refine (clear_any _ pc gc 300 f h5c 0 300).mono ?_
        rintro e w6 ⟨rfl, h6, hf6⟩
        have hl4 := ht4.lt
        have hl4q := hq4.lt
        have hlT := HT4.out.lt
        have hlQ := HQ4.out.lt
        have hlR := HR4.out.lt
        have HQ6 := Lib.hid ((HQ4.out.fr hf5 (by simp)).fr hf6 (by simp; omega))
        have HR6 := Lib.hid ((HR4.out.fr hf5 (by simp)).fr hf6 (by simp; omega))
        have HT6 := Lib.hid ((HT4.out.fr hf5 (by simp) (by simp)).fr hf6 (by simp; omega) (by simp; omega))
        have HI6 := Lib.hid ((ht4.fr hf5 (by simp) (by simp)).fr hf6 (by simp; omega) (by simp; omega))
        have Hq6 := Lib.hid ((hq4.fr hf5 (by simp)).fr hf6 (by simp; omega))
        have HC6 := Lib.hid h6
        have HF6 := Lib.hid ((HF4.out.trans0 hf5).trans hf6 (by simp; have := HF4.out.size; omega))
        have c3 := HQ6.out.cell 0
        simp only [List.getElem?_toArray, List.getElem?_cons_zero] at c3
        clear hf4 hf5 hf6 HQ HR HTg HF HQ4 HR4 HT4 HF4 h5c h6 hq4 ht4
        go_wp2_with fail
        refine wp_loop_rounds 3 ?_
        rw [rounds_succ]
        go_wp2_with fail
        have hA8 := (At.new w6 3 #[.int .i64 (-1)]).old (.cells #[.int .i64 0] 3)
        have hA9 := At.new (w6.alloc (.cells #[.int .i64 (-1)] 3)) 3 #[.int .i64 0]
        simp only [World.size_alloc] at hA9
        have HFA : Fr [] w6 ((w6.alloc (.cells #[.int .i64 (-1)] 3)).alloc (.cells #[.int .i64 0] 3)) := (by repeat (first | exact Fr.refl _ _ | assumption | refine Fr.trans0 ?_ (by assumption) | refine Fr.drewN ?_ _ | refine Fr.alloc ?_ _ | refine Fr.drew ?_))
        have hst := all_stops (3 - 1) q p' g' 300 f _ (Hq6.out.fr HFA (by simp)) (HI6.out.fr HFA (by simp) (by simp)) ((HT.out.fr HF6.out (by simp)).fr HFA (by simp))
        refine (wpIn_wide (n := 3)).1 ?_
        refine wpIn_rangeFunc_ownF rfl (by omega) (gf := 15) (lb := #[.pointer (some ⟨q, 0, none⟩)]) rfl trivial (enters_of Tryd.func15 (by kernel_rfl) rfl) hst kpB_t kpB_b (Below.refl _ _) (fun _ => rfl)
          (fun pre V => good f pre ∧ At V w6.heap.size 3 #[.int .i64 (lastI pre)] ∧ At V (w6.heap.size + 1) 3 #[.int .i64 pre.length] ∧ Fr [] w6 V)
          (fun c pre V => ∃ (p0 : List Nat) (x : Nat), pre = p0 ++ [x] ∧ ¬ (lastI p0 < (x : Nat) ∧ f x = true))
          (fun x A B row hs hg hr => ⟨hs.1, atK_grown hg (fun r e => (hr r e).2) _ _ _ hs.2.1, atK_grown hg (fun r e => (hr r e).2) _ _ _ hs.2.2.1, hs.2.2.2.row hg HFA.size hr⟩)
          (fun c x A B row hs hg hr => hs)
          ⟨good_nil f, hA8, hA9, HFA⟩ ?a1y ?assigny ?bodyy ?doney ?stopy
        case assigny =>
          intro l x V K hK
          gi_wp2
          exact hK
        case stopy =>
          rintro D c pre V hD hpre ⟨p0, x, rfl, hb⟩ hK
          exact (bad_stop hpre hb).elim
        case bodyy =>
          rintro l pre x V ⟨hgd, h8, h9, hF⟩ _
          have H8 := Lib.hid h8
          have H9 := Lib.hid h9
          have HVT := Lib.hid (HT6.out.fr hF (by simp) (by simp))
          have HV3 := (HQ6.out.fr hF (by simp)).cell 0
          have HV2 := HR6.out.fr hF (by simp)
          have c8 := h8.cell 0
          have c9 := h9.cell 0
          have f8 := h8.froz 0
          have f9 := h9.froz 0
          simp only [List.getElem?_toArray, List.getElem?_cons_zero] at c8 c9 HV3
          have C := Lib.hid (get_any V p g 300 f HVT.out (x : Nat))
          have HS := Lib.hid (lastI_snoc pre x)
          by_cases hb : lastI pre < (x : Nat) ∧ f x = true
          · obtain ⟨hb1, hb2⟩ := hb
            have hx : x < 300 := by
              rcases Nat.lt_or_ge x 300 with h | h
              · exact h
              · rw [HVT.out.2.2.1 x h] at hb2; cases hb2
            have HGD := Lib.hid (good_snoc hgd hb1 hb2)
            rw [inR_nat _ _ hx, Int.toNat_natCast, hb2] at C
            obtain ⟨La, hLa⟩ : ∃ La, lastI pre = La := ⟨_, rfl⟩
            obtain ⟨m, hm⟩ : ∃ m, pre.length = m := ⟨_, rfl⟩
            have HLM := Lib.hid (And.intro hLa hm)
            rw [hLa] at c8 hb1
            rw [hm] at c9
            have hml := good_len f m pre hm hgd
            rw [hLa] at hml
            have hmm : m ≤ 300 := by omega
            clear hml
            have hnle : ¬ ((x : Nat) : Int) ≤ La := by omega
            have HFF := Lib.hid hF
            clear hgd h8 h9 hF hb1 hb2 HV2 hLa hm
            gi_wp2
            refine ⟨trivial, CallsIn.inRound l ((callsIn_wide (n := 0)).2 ((C.out).mono ?_))⟩
            rintro e w' ⟨rfl, rfl⟩
            gi_wp2
            have hTl := HT.out.lt
            have hws := HF6.out.size
            have hlq6 := Hq6.out.lt
            have hlI6 := HI6.out.lt
            have hfs : Fr [w6.heap.size, w6.heap.size + 1] V ((V.setCell ⟨w6.heap.size, 0, none⟩ (.int .i64 (x : Nat))).setCell ⟨w6.heap.size + 1, 0, none⟩ (.int .i64 ((m : Int) + 1))) := ((Fr.refl _ _).set (.inl (by simp)) _).set (.inl (by simp)) _
            refine ⟨hfs.keepsFrom (by simp; exact ⟨⟨_, _, H8.out⟩, _, _, H9.out⟩), kpB_fr hfs (by simp; omega), HGD.out, ?_, ?_, HFF.out.trans hfs (by simp)⟩
            · rw [HS.out]; exact (H8.out.set 0 _).far (show w6.heap.size ≠ w6.heap.size + 1 by omega) _
            · rw [List.length_append, List.length_singleton, HLM.out.2]; exact (H9.out.far (show w6.heap.size + 1 ≠ w6.heap.size by omega) _).set 0 _
          · have HBD := Lib.hid hb
            have z2 := HV2.cell 0
            have y2 := HV2.froz 0
            simp only [List.getElem?_toArray, List.getElem?_cons_zero] at z2
            have hfs : Fr [w.heap.size] V (V.setCell ⟨w.heap.size, 0, none⟩ (.bool false)) := (Fr.refl _ _).set (.inl (by simp)) _
            have HR2 := Lib.hid HV2
            obtain ⟨La, hLa⟩ : ∃ La, lastI pre = La := ⟨_, rfl⟩
            rw [hLa] at c8 hb
            clear hLa hgd h8 h9 hF HV2
            by_cases hle : ((x : Nat) : Int) ≤ La
            · clear hb C
              gi_wp2
              refine ⟨trivial, ?_⟩
              gi_wp2
              exact ⟨hfs.keepsFrom (by simp; exact ⟨_, _, HR2.out⟩), pre, x, rfl, HBD.out⟩
            · have hfx : f x = false := by
                cases e : f x with
                | false => rfl
                | true => exact absurd ⟨by omega, e⟩ hb
              rw [Int.toNat_natCast, hfx, Bool.and_false] at C
              clear hb hfx
              gi_wp2
              refine ⟨trivial, CallsIn.inRound l ((callsIn_wide (n := 0)).2 ((C.out).mono ?_))⟩
              rintro e w' ⟨rfl, rfl⟩
              gi_wp2
              exact ⟨hfs.keepsFrom (by simp; exact ⟨_, _, HR2.out⟩), pre, x, rfl, HBD.out⟩
        case doney =>
          rintro D xs V hD hxs ⟨hgd, h8, h9, hF⟩ hK
          have HVT := Lib.hid (HT6.out.fr hF (by simp) (by simp))
          have HV3 := (HQ6.out.fr hF (by simp)).cell 0
          have c9 := h9.cell 0
          simp only [List.getElem?_toArray, List.getElem?_cons_zero] at c9 HV3
          rw [hxs, told_count f 300] at c9
          have HFF := Lib.hid hF
          have HK := Lib.hid hK
          have C := Lib.hid fun nq => count_any (V.drewN nq) p g 300 f (HVT.out.drewN nq)
          have hii : ∀ i : Int, (i != i) = false := fun i => by simp
          obtain ⟨cc, hcc⟩ : ∃ c, cnt f 300 = c := ⟨_, rfl⟩
          rw [hcc] at c9 C
          clear hgd h8 h9 hF hK hxs hcc
          go_wp2
          go_quiet ((go_at_call 11; exact q_same (C.out _)))
          go_wp2_with fail
          obtain ⟨w8, hw8⟩ : ∃ X, V.drewN nq = X := ⟨_, rfl⟩
          have F68 : Fr [] w6 w8 := by rw [← hw8]; exact HFF.out.drewN nq
          have K8 : w8.heap[D]? = some (.deferred (some [])) := by rw [← hw8]; exact HK.out
          rw [hw8]
          clear hw8 c9 HV3 C HVT HFF HK hii
          have c3 := (HQ6.out.fr F68 (by simp)).cell 0
          simp only [List.getElem?_toArray, List.getElem?_cons_zero] at c3
          rw [rounds_succ]
          go_wp2_with fail
          have hA8 := (At.new w8 3 #[.int .i64 (-1)]).old (.cells #[.int .i64 0] 3)
          have hA9 := At.new (w8.alloc (.cells #[.int .i64 (-1)] 3)) 3 #[.int .i64 0]
          simp only [World.size_alloc] at hA9
          have HFA : Fr [] w6 ((w8.alloc (.cells #[.int .i64 (-1)] 3)).alloc (.cells #[.int .i64 0] 3)) := (F68.alloc _).alloc _
          have KA := Lib.hid ((((Fr.refl [] w8).alloc (.cells #[.int .i64 (-1)] 3)).alloc (.cells #[.int .i64 0] 3)).keep D (Array.getElem?_eq_some_iff.1 K8).1 (by simp) |>.trans K8)
          have hDw8 := (Array.getElem?_eq_some_iff.1 K8).1
          have hs68 := F68.size
          have hst := all_stops (3 - 1) q p' g' 300 f _ (Hq6.out.fr HFA (by simp)) (HI6.out.fr HFA (by simp) (by simp)) ((HT.out.fr HF6.out (by simp)).fr HFA (by simp))
          refine (wpIn_wide (n := 3)).1 ?_
          refine wpIn_rangeFunc_ownF rfl (by omega) (gf := 15) (lb := #[.pointer (some ⟨q, 0, none⟩)]) rfl trivial (enters_of Tryd.func15 (by kernel_rfl) rfl) hst kpB_t kpB_b (Below.refl _ _) (fun _ => rfl)
            (fun pre V => (good f pre ∧ At V w8.heap.size 3 #[.int .i64 (lastI pre)] ∧ At V (w8.heap.size + 1) 3 #[.int .i64 pre.length] ∧ Fr [] w6 V) ∧ V.heap[D]? = some (.deferred (some [])))
            (fun c pre V => ∃ (p0 : List Nat) (x : Nat), pre = p0 ++ [x] ∧ ¬ (lastI p0 < (x : Nat) ∧ f x = true))
            (fun x A B row hs hg hr => ⟨⟨hs.1.1, atK_grown hg (fun r e => (hr r e).2) _ _ _ hs.1.2.1, atK_grown hg (fun r e => (hr r e).2) _ _ _ hs.1.2.2.1, hs.1.2.2.2.row hg HFA.size hr⟩, (hg.block D (Array.getElem?_eq_some_iff.1 hs.2).1 (fun e => by have := (hr D e.symm).1; simp only [World.size_alloc] at this; omega)).trans hs.2⟩)
            (fun c x A B row hs hg hr => hs)
            ⟨⟨good_nil f, hA8, hA9, HFA⟩, KA.out⟩ ?a12y ?assign2y ?body2y ?done2y ?stop2y
          case assign2y =>
            intro l x V K hK
            gi_wp2
            exact hK
          case stop2y =>
            rintro D2 c pre V hD hpre ⟨p0, x, rfl, hb⟩ hK
            exact (bad_stop hpre hb).elim
          case body2y =>
            rintro l pre x V ⟨⟨hgd, h8, h9, hF⟩, hD0⟩ _
            have HD0 := Lib.hid hD0
            clear hD0
            have H8 := Lib.hid h8
            have H9 := Lib.hid h9
            have HVT := Lib.hid (HT6.out.fr hF (by simp) (by simp))
            have HV3 := (HQ6.out.fr hF (by simp)).cell 0
            have HV2 := HR6.out.fr hF (by simp)
            have c8 := h8.cell 0
            have c9 := h9.cell 0
            have f8 := h8.froz 0
            have f9 := h9.froz 0
            simp only [List.getElem?_toArray, List.getElem?_cons_zero] at c8 c9 HV3
            have C := Lib.hid (get_any V p g 300 f HVT.out (x : Nat))
            have HS := Lib.hid (lastI_snoc pre x)
            by_cases hb : lastI pre < (x : Nat) ∧ f x = true
            · obtain ⟨hb1, hb2⟩ := hb
              have hx : x < 300 := by
                rcases Nat.lt_or_ge x 300 with h | h
                · exact h
                · rw [HVT.out.2.2.1 x h] at hb2; cases hb2
              have HGD := Lib.hid (good_snoc hgd hb1 hb2)
              rw [inR_nat _ _ hx, Int.toNat_natCast, hb2] at C
              obtain ⟨La, hLa⟩ : ∃ La, lastI pre = La := ⟨_, rfl⟩
              obtain ⟨m, hm⟩ : ∃ m, pre.length = m := ⟨_, rfl⟩
              have HLM := Lib.hid (And.intro hLa hm)
              rw [hLa] at c8 hb1
              rw [hm] at c9
              have hml := good_len f m pre hm hgd
              rw [hLa] at hml
              have hmm : m ≤ 300 := by omega
              clear hml
              have hnle : ¬ ((x : Nat) : Int) ≤ La := by omega
              have HFF := Lib.hid hF
              clear hgd h8 h9 hF hb1 hb2 HV2 hLa hm
              gi_wp2
              refine ⟨trivial, CallsIn.inRound l ((callsIn_wide (n := 0)).2 ((C.out).mono ?_))⟩
              rintro e w' ⟨rfl, rfl⟩
              gi_wp2
              have hTl := HT.out.lt
              have hws := HF6.out.size
              have hlq6 := Hq6.out.lt
              have hlI6 := HI6.out.lt
              have hfs : Fr [w8.heap.size, w8.heap.size + 1] V ((V.setCell ⟨w8.heap.size, 0, none⟩ (.int .i64 (x : Nat))).setCell ⟨w8.heap.size + 1, 0, none⟩ (.int .i64 ((m : Int) + 1))) := ((Fr.refl _ _).set (.inl (by simp)) _).set (.inl (by simp)) _
              refine ⟨hfs.keepsFrom (by simp; exact ⟨⟨_, _, H8.out⟩, _, _, H9.out⟩), kpB_fr hfs (by simp; omega), ⟨HGD.out, ?_, ?_, HFF.out.trans hfs (by simp; omega)⟩, (hfs.keep D (Array.getElem?_eq_some_iff.1 HD0.out).1 (by simp; omega)).trans HD0.out⟩
              · rw [HS.out]; exact (H8.out.set 0 _).far (show w8.heap.size ≠ w8.heap.size + 1 by omega) _
              · rw [List.length_append, List.length_singleton, HLM.out.2]; exact (H9.out.far (show w8.heap.size + 1 ≠ w8.heap.size by omega) _).set 0 _
            · have HBD := Lib.hid hb
              have z2 := HV2.cell 0
              have y2 := HV2.froz 0
              simp only [List.getElem?_toArray, List.getElem?_cons_zero] at z2
              have hfs : Fr [w.heap.size] V (V.setCell ⟨w.heap.size, 0, none⟩ (.bool false)) := (Fr.refl _ _).set (.inl (by simp)) _
              have HR2 := Lib.hid HV2
              obtain ⟨La, hLa⟩ : ∃ La, lastI pre = La := ⟨_, rfl⟩
              rw [hLa] at c8 hb
              clear hLa hgd h8 h9 hF HV2
              by_cases hle : ((x : Nat) : Int) ≤ La
              · clear hb C
                gi_wp2
                refine ⟨trivial, ?_⟩
                gi_wp2
                exact ⟨hfs.keepsFrom (by simp; exact ⟨_, _, HR2.out⟩), pre, x, rfl, HBD.out⟩
              · have hfx : f x = false := by
                  cases e : f x with
                  | false => rfl
                  | true => exact absurd ⟨by omega, e⟩ hb
                rw [Int.toNat_natCast, hfx, Bool.and_false] at C
                clear hb hfx
                gi_wp2
                refine ⟨trivial, CallsIn.inRound l ((callsIn_wide (n := 0)).2 ((C.out).mono ?_))⟩
                rintro e w' ⟨rfl, rfl⟩
                gi_wp2
                exact ⟨hfs.keepsFrom (by simp; exact ⟨_, _, HR2.out⟩), pre, x, rfl, HBD.out⟩
          case done2y =>
            rintro D2 xs V hD2 hxs ⟨⟨hgd, h8, h9, hF⟩, hD0⟩ hK2
            have HVT := Lib.hid (HT6.out.fr hF (by simp) (by simp))
            have HVC := Lib.hid (HC6.out.fr hF (by simp) (by simp))
            have HVR := Lib.hid (HR6.out.fr hF (by simp))
            have HV3 := (HQ6.out.fr hF (by simp)).cell 0
            have z2 := HVR.out.cell 0
            have y2 := HVR.out.froz 0
            have c9 := h9.cell 0
            simp only [List.getElem?_toArray, List.getElem?_cons_zero] at c9 HV3 z2
            rw [hxs, told_count f 300] at c9
            have HFF := Lib.hid hF
            have HK1 := Lib.hid hD0
            have HK2 := Lib.hid hK2
            have hDD : D ≠ D2 := by simp only [World.size_alloc] at hD2; omega
            have hDw : w.heap.size ≤ D := by have := HF6.out.size; simp only [World.size_alloc] at hD; omega
            have hD2w : w.heap.size ≤ D2 := by have := HF6.out.size; simp only [World.size_alloc] at hD2; omega
            have C := Lib.hid fun nq => count_any (V.drewN nq) p g 300 f (HVT.out.drewN nq)
            have hii : ∀ i : Int, (i != i) = false := fun i => by simp
            obtain ⟨cc, hcc⟩ : ∃ c, cnt f 300 = c := ⟨_, rfl⟩
            rw [hcc] at c9 C
            clear hgd h8 h9 hF hD0 hK2 hxs hcc
            go_wp2
            go_quiet ((go_at_call 11; exact q_same (C.out _)))
            go_wp2_with fail
            rw [rounds_succ]
            go_wp2_with fail
            refine (count_is (HVC.out.drewN nq) 0 (cnt_zero _ _ fun i hi => by unfold clr; simp; omega)).mono ?_
            rintro e w' ⟨rfl, rfl⟩
            go_wp2
            have hko := KeepsOthers.setCell (V.drewN nq) ⟨w.heap.size, 0, none⟩ (.bool true)
            have hK2 := hko.same D2 _ HK2.out rfl
            have hK1 := hko.same D _ HK1.out rfl
            have hK1 := (World.putObj_heap_other (w := (V.drewN nq).setCell ⟨w.heap.size, 0, none⟩ (.bool true)) (o := .deferred none) hDD).trans hK1
            have hRs := (HVR.out.drewN nq).set 0 (.bool true)
            have hFs := (((HF6.out.trans0 HFF.out).drewN nq).set (a := ⟨w.heap.size, 0, none⟩) (.inr (Nat.le_refl _)) (.bool true))
            refine ⟨by simp, .inl ⟨_, _, rfl, run_takeDeferred hK2, by simp, .inl ⟨_, _, rfl, run_takeDeferred hK1, ?_⟩⟩⟩
            have hk2 := atK_put (.deferred none) hK2 rfl
            have hk1 := atK_put (.deferred none) hK1 rfl
            have hc5 := (hk1 _ _ _ (hk2 _ _ _ hRs)).cell 0
            exact ⟨.bool true, by simp [results, Tryd.results3, go_sem, hc5], rfl, (hFs.putObj D2 _ hD2w).putObj D _ hDw⟩
theorem walk (a1 : Option Addr) (len1 cap1 : Nat) (z1 : List Int) (w : World) (w1 : Ints .u16 w a1 len1 z1) (hT : Tab w) :
    Calls Tryd.prog 3 #[.slice a1 len1 cap1] w fun e w' => e = .returned (.bool true) ∧ Fr [] w w' := by
  obtain ⟨h1, h2, h3, h4⟩ := w1
  rcases h4 with h4 | ⟨b, off, h5, h6, h7⟩
  · exact walk0 a1 0 0 len1 cap1 z1 w hT (.inl h4) h1 h2 h3 (fun h => by omega) (fun i hi => by omega)
  · exact walk0 a1 b off len1 cap1 z1 w hT (.inr h5) h1 h2 h3 (fun _ => h6) h7
theorem laidOut : laidOutB Tryd.prog = true := by kernel_rfl
set_option maxRecDepth 100000 in
theorem lifted (os : Os) (started : os.Started) (H : Type) (enc : TypeId × Value → H) :
    ReturnsInHanded {} Tryd.checked os 3 .any (fun w args => (Rows.tagsTellSpec.pre enc Tryd.prog Tryd.f3 [] false w args ∧ laidMetH Tryd.prog laidL w) ∧ sizedMet enc Tryd.prog Tryd.f3 (OpenSpec.ofChange Rows.tagsTellSpec) false w args) (Rows.tagsTellSpec.post enc Tryd.prog Tryd.f3 false true false false) := by
  refine returnsInHanded_of_change_and (C := Tryd.checked) (X := fun w _ => laidMetH Tryd.prog laidL w) (fun _ _ _ hh h => h.of_heap hh) own started (by kernel_rfl) Tryd.func3
    (ChangeSpec.witness_at (enc := enc) (C := Tryd.checked) (os := os) (X := fun w _ => laidMetH Tryd.prog laidL w) false (laidWorld os) #[.slice none 0 0] 8 rfl (by kernel_rfl) (by kernel_rfl) (by kernel_rfl) (by kernel_rfl) (by kernel_rfl) (laidWorld_met os _)) ?_
  intro W base args ds gs before hval0 hW _ _ hL _
  have hT := tab_of_laid hL
  have hval : ∀ (j : Nat) t v, Tryd.f3.params[j]? = some t → args[j]? = some v → Value.okWide Tryd.prog W .any base t v := hval0
  have hW' := hW
  obtain ⟨p, q, hA0, hV, rfl, hfz, hnd⟩ := hW
  have hA : DataW.TrodAll enc Tryd.prog W 0 (fun _ => true) true Tryd.f3.params.toList args.toList ds p := hA0
  rw [Tryd.params3] at hA hval
  obtain ⟨v0, vs0, d0, ds0, p0, q0, hargs, rfl, rfl, h0, r0⟩ := trodAll_cons hA
  obtain ⟨rfl, rfl, rfl⟩ := trodAll_nil r0
  obtain rfl : args = #[v0] := by cases args; simp_all
  obtain ⟨rfl, rfl⟩ := trodVars_none hV
  obtain ⟨a0, len0, cap0, rfl⟩ := okWide_slice Tryd.underlying22 (hval 0 22 v0 rfl rfl)
  have k0 := h0
  have lt0 : ∀ x ∈ p0, x.block < W.heap.size := by obtain ⟨m, hm⟩ := k0; exact DataW.trod_lt m _ _ _ hm
  obtain ⟨z0, w0⟩ : ∃ zs, Ints .u16 W a0 len0 zs := by
    obtain ⟨fuel, hf⟩ := h0
    rcases open_ints Tryd.underlying22 Tryd.underlying27 (by kernel_rfl) hf with ⟨hcs, _⟩ | ⟨x, l, c, zs, hcs, _, hl, hm, hz, _, hcell, hwz⟩
    · simp [Value.cells] at hcs
      obtain ⟨rfl, rfl, rfl⟩ := hcs
      exact ⟨[], Ints.nil _⟩
    · simp [Value.cells] at hcs
      obtain ⟨rfl, rfl, rfl⟩ := hcs
      exact ⟨zs.take len0, Ints.of hl hm (by simpa using hz) hcell hwz⟩
  clear hA0 hval0
  refine (walk a0 len0 cap0 z0 W w0 hT).mono fun e W' ⟨he, hg⟩ => ?_
  subst he
  have bel := hg.below
  exact ⟨_, rfl, _, _, _, [], _, [], hW', trodAll_mk1 (shut_bool Tryd.underlying4 _), (trodAll_cons_mk (Below.trod laidOut (by kernel_rfl) (of_decide_eq_true (by kernel_rfl)) k0 bel lt0) trodAll_mk0), rfl, bel.frame _, fun h => by cases h⟩
theorem over : Rows.tagsTellRow.holds Tryd.pinned (OpenSpec.ofChange Rows.tagsTellSpec) :=
  OpenClaim.holds_of_wide 3 Tryd.f3 rfl rfl rfl rfl rfl rfl rfl ⟨rfl, rfl, rfl, rfl, rfl⟩ rfl rfl rfl rfl rfl (by kernel_rfl) Tryd.func3 (by kernel_rfl)
    (of_decide_eq_true (by kernel_rfl)) (by unfold Func.isWrapper; first | (rw [if_pos (by decide +kernel)]; kernel_rfl) | (rw [if_neg (by decide +kernel)]; exact ⟨rfl, rfl⟩))
    (fun os started H enc _ => lifted os started H enc)
set_option maxRecDepth 100000 in
/-- The card, tied. -/
theorem proved : Rows.TagsTellCardSaid :=
  Claim7.holds_tied_plain_at .later [] [.data] true (true, "5610ab9ee8d5b11e105c1d862b1ecda8ff4885c19e89c5c78885b4f44d13d0b4") false
    over (fun _ h => by cases h) (by kernel_rfl) (fun _ h => by cases h) tagsTell_row_tie rfl ⟨rfl, rfl⟩ (by kernel_rfl) rfl
    (fun f fn hf hfn => by
      obtain rfl : f = 3 := Option.some.inj ((show Tryd.prog.funcNamed "fallow/fallowlaw02.TagsTell" = some 3 by kernel_rfl).symm.trans hf) |>.symm
      obtain rfl : fn = Tryd.f3 := (Option.some.inj (Tryd.func3.symm.trans hfn)).symm
      exact ⟨by kernel_rfl, fun j t ht => by
        have hm : t ∈ Tryd.f3.params.toList := by simpa using Array.mem_of_getElem? ht
        have hall : (Tryd.f3.params.toList.all fun u => !Tryd.prog.wantsStandIn u) = true := by kernel_rfl
        exact (show Tryd.prog.wantsStandIn t = false by simpa using List.all_eq_true.1 hall t hm)⟩)
    (by kernel_rfl)
end tagsTell
end Go.Proofs.YtgbffcbkipecnaaDoor
