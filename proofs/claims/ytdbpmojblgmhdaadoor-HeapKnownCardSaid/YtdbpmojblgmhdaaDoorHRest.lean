/-
  Free, Release, Live, Resting of a heap, over its two lists. No condition.
-/



import Derived.Test.YtdbpmojblgmhdaaDoorHActs
set_option linter.unusedVariables false
namespace Go.Proofs.YtdbpmojblgmhdaaDoor
open Go.ChangeShapes Go.WideShapes Go.ChangeAt Go.RowKit
section
variable {w w' : World} {I : HId} {own r : Rg} {A L R : List Rg} {c : Nat}
theorem ne_rb (nd : I.foot.Nodup) : I.rb ≠ I.hp ∧ I.rb ≠ I.pp ∧ I.rb ≠ I.pt ∧ I.rb ≠ I.pg ∧ I.rb ≠ I.lb := by
  simp only [HId.foot, List.nodup_cons, List.mem_cons, List.not_mem_nil, or_false, not_or] at nd
  refine ⟨fun e => ?_, fun e => ?_, fun e => ?_, fun e => ?_, fun e => ?_⟩ <;> simp_all
theorem lr_foot : ∀ k ∈ [I.lb, I.rb], k ∈ I.foot := fun k hk => by
  simp at hk
  rcases hk with rfl | rfl <;> simp [HId.foot]
/-- The parts but the two sets, where just these have changed. -/
theorem Hb.sets (h : Hb w I own A) (f : Fr [I.lb, I.rb] w w') : Hb w' I own A := by
  have n2 := ne_lb h.nd
  have n3 := ne_rb h.nd
  exact ⟨h.c.fr f (by simp; exact ⟨n2.1.symm, n3.1.symm⟩), h.p.fr f (by simp; exact ⟨n2.2.1.symm, n3.2.1.symm⟩) (by simp; exact ⟨n2.2.2.1.symm, n3.2.2.1.symm⟩) (by simp; exact ⟨n2.2.2.2.1.symm, n3.2.2.2.1.symm⟩),
    fun c hc => (h.b c hc).fr f (by simp; exact ⟨(ne_bk h.nd hc).1.2.2.2.2.1, (ne_bk h.nd hc).1.2.2.2.2.2⟩), h.nd, h.g⟩
theorem Hp.apart_at (h : Hp w I own L R) {x y : Rg} (hx : x ∈ L ++ R) (hy : y ∈ L ++ R) (hne : x ≠ y) : x.1 ≠ y.1 := by
  have h1 := h.h.g.apart x hx y hy hne
  have h2 := h.h.g.pos hx
  have h3 := h.h.g.pos hy
  omega
theorem free_no (h : Hp w I own L R) (hr : Ok32 r) (hL : r ∉ L) : Calls Tryd.prog 18 #[.pointer (some ⟨I.hp, 0, none⟩), .agg #[.int .u32 r.1, .int .u32 r.2]] w fun e w' => e = .returned (.int .i64 8) ∧ Hp w' I own L R ∧ Fr I.foot w w' := by
  refine (hfree_no h hr hL).mono ?_
  rintro e w' ⟨rfl, h1, h2, h3, h4, h5⟩
  exact ⟨rfl, ⟨h.h.sets h5, h3, h4, h.sl, h.sr, h.dj⟩, h5.more fun k hk => .inl (lr_foot k hk)⟩
theorem free_yes (h : Hp w I own L R) (hL : r ∈ L) : Calls Tryd.prog 18 #[.pointer (some ⟨I.hp, 0, none⟩), .agg #[.int .u32 r.1, .int .u32 r.2]] w fun e w' => e = .returned (.int .i64 0) ∧ Hp w' I own (less L r) (insS R r) ∧ Fr I.foot w w' := by
  have hroom := h.room
  refine (hfree_go h (hroom.2.2.2.2 r (by simp [hL])) hL hroom.2.1).mono ?_
  rintro e w' ⟨rfl, h1, h2, h3, h4, h5⟩
  have hnr := h.dj r hL
  refine ⟨rfl, ⟨(h.h.sets h5).congr fun x => ?_, h3, h4.perm (insS_perm r R).symm, less_sorted r h.sl, insS_sorted r R h.sr fun x hx => h.apart_at (by simp [hx]) (by simp [hL]) (fun e => hnr (e ▸ hx)), fun x hx => ?_⟩, h5.more fun k hk => .inl (lr_foot k hk)⟩
  · rw [List.mem_append, List.mem_append, mem_less, insS_mem]
    constructor
    · rintro (hx | hx)
      · by_cases e : x = r
        · exact .inr (.inl e)
        · exact .inl ⟨hx, e⟩
      · exact .inr (.inr hx)
    · rintro (hx | rfl | hx)
      · exact .inl hx.1
      · exact .inl hL
      · exact .inr hx
  · obtain ⟨hx1, hx2⟩ := (mem_less r x).1 hx
    rw [insS_mem]
    rintro (e | hx3)
    · exact hx2 e
    · exact h.dj x hx1 hx3
theorem release_no (h : Hp w I own L R) (hr : Ok32 r) (hL : r ∉ R) : Calls Tryd.prog 19 #[.pointer (some ⟨I.hp, 0, none⟩), .agg #[.int .u32 r.1, .int .u32 r.2]] w fun e w' => e = .returned (.int .i64 8) ∧ Hp w' I own L R ∧ Fr I.foot w w' := by
  refine (hrelease_no h hr hL).mono ?_
  rintro e w' ⟨rfl, h1, h2, h3, h4, h5⟩
  exact ⟨rfl, ⟨h.h.sets h5, h3, h4, h.sl, h.sr, h.dj⟩, h5.more fun k hk => .inl (lr_foot k hk)⟩
theorem hit_zero (f : Nat → Bool) (n a r : Nat) (h : a + r ≤ n) (hz : ∀ i, i < r → f (a + i) = false) : hit f n a ((a : Int) + r) = 0 := by
  unfold hit cntB
  rw [show (max (a : Int) 0).toNat = a by omega, show (min ((a : Int) + r) n).toNat = a + r by omega]
  refine cnt_zero _ _ fun i hi => ?_
  unfold btw
  by_cases hr : a ≤ i
  · have := hz (i - a) (by omega)
    rw [show a + (i - a) = i by omega] at this
    rw [this]; rfl
  · simp [hr]
theorem ok_put (f : Nat → Bool) (a r : Nat) (h1 : 1 ≤ r) (h : a + r ≤ 1024) (hz : ∀ i, i < r → f (a + i) = false) : okPut f 1024 a r = true := by
  unfold okPut
  rw [decide_eq_true (hit_zero f 1024 a r h hz), decide_eq_true (show (0 : Int) ≤ a by omega), decide_eq_true (show (1 : Int) ≤ r by omega), decide_eq_true (show (a : Int) + r ≤ (1024 : Nat) by omega)]
  rfl
/-- The heap behind a release: what is left to show. -/
theorem Hp.shrink (h : Hp w I own L R) (hL : r ∈ R) {w6 : World} {S : List Nat} (hd : Rd w I own r L (less R r) w6) (f : Fr S w6 w') (hS : ∀ k ∈ S, k = I.pg ∨ ∃ c, c < 5 ∧ k = I.bk c)
    (hp : Pl w' I.pp I.pt I.pg 1024 (frP own (less (L ++ R) r))) (hb : ∀ c, c < 5 → Book w' (I.bk c) (per c) (fcl (less (L ++ R) r) c) (tcl (less (L ++ R) r) c)) : Hp w' I own L (less R r) ∧ Fr I.foot w w' := by
  have nd := h.h.nd
  have n3 := ne_pg nd
  have k4 : ∀ k, (k ≠ I.pg ∧ ∀ c, c < 5 → k ≠ I.bk c) → k ∉ S := fun k hk hk4 => by
    rcases hS k hk4 with e | ⟨c, hc, e⟩
    · exact hk.1 e
    · exact hk.2 c hc e
  have hnl : r ∉ L := fun hx => h.dj r hx hL
  have hB : Hb w' I own (less (L ++ R) r) := ⟨hd.1.fr f (k4 _ ⟨n3.1.symm, fun c hc e => (ne_bk nd hc).1.1 e.symm⟩), hp, hb, nd, h.h.g.less r⟩
  refine ⟨⟨hB.congr fun x => ?_, ?_, ?_, h.sl, less_sorted r h.sr, fun x hx hx2 => h.dj x hx ((mem_less r x).1 hx2).1⟩, (hd.2.2.2.2.more (T := I.foot) fun k hk => .inl (lr_foot k hk)).trans f fun k hk => .inl ?_⟩
  · rw [mem_less, List.mem_append, List.mem_append, mem_less]
    constructor
    · rintro ⟨hx | hx, e⟩
      · exact .inl hx
      · exact .inr ⟨hx, e⟩
    · rintro (hx | hx)
      · exact ⟨.inl hx, fun e => hnl (e ▸ hx)⟩
      · exact ⟨.inr hx.1, hx.2⟩
  · exact hd.2.2.1.fr f (k4 _ ⟨n3.2.2.2.1.symm, fun c hc e => (ne_bk nd hc).1.2.2.2.2.1 e.symm⟩)
  · exact hd.2.2.2.1.fr f (k4 _ ⟨n3.2.2.2.2.symm, fun c hc e => (ne_bk nd hc).1.2.2.2.2.2 e.symm⟩)
  · rcases hS k hk with rfl | ⟨c, hc, rfl⟩
    · simp [HId.foot]
    · exact I.bk_mem hc
theorem cls_sz {c : Nat} (hc : c < 5) : clsV (sz c : Int) = c ∧ clsB (sz c : Int) = true := by
  rcases five hc with rfl | rfl | rfl | rfl | rfl <;> exact ⟨rfl, rfl⟩
theorem slot_mod {c p s : Nat} (hc : c < 5) (hs : s < per c) : (256 * p + s * sz c) % 256 / sz c = s := by
  rcases sz_cases hc with ⟨q, r⟩ | ⟨q, r⟩ | ⟨q, r⟩ | ⟨q, r⟩ | ⟨q, r⟩ <;> rw [q] <;> rw [r] at hs <;> omega
theorem release_yes (h : Hp w I own L R) (hL : r ∈ R) : Calls Tryd.prog 19 #[.pointer (some ⟨I.hp, 0, none⟩), .agg #[.int .u32 r.1, .int .u32 r.2]] w fun e w' => e = .returned (.int .i64 0) ∧ Hp w' I own L (less R r) ∧ Fr I.foot w w' := by
  have hroom := h.room
  have nd := h.h.nd
  have n2 := ne_lb nd
  have n4 := ne_rb nd
  have n3 := ne_pg nd
  have G := h.h.g
  have hA : r ∈ L ++ R := by simp [hL]
  have hok := hroom.2.2.2.2 r hA
  have hin := G.inside r hA
  have ho4 := G.o4
  have o1 := G.o1
  have o2 := G.o2
  rcases G.shape r hA with ⟨c, hc, e1, _⟩ | ⟨h1, h2, h3⟩
  · obtain ⟨s, hs, e2⟩ := G.slot hA hc e1
    obtain ⟨p, hp⟩ : ∃ p, r.1 / 256 = p := ⟨_, rfl⟩
    rw [hp] at e2
    have nb := ne_bk nd hc
    obtain ⟨r1, r2⟩ := r
    dsimp only at e1 e2 hp
    subst e1
    subst e2
    have hT : tcl (L ++ R) c p = true := (tcl_iff _ c p).2 ⟨_, hA, rfl, hp⟩
    have hF : fcl (L ++ R) c p s = false := by
      rw [← Bool.not_eq_true, fcl_iff]
      rintro ⟨_, _, hn⟩
      exact hn hA
    have hcs := cls_sz hc
    have hz := sz_bd hc
    have hsm := slot_mod (p := p) hc hs
    have hw := whole_slot G hc hs hA
    have hsd : Sound (per c) (upp (fcl (L ++ R) c) p (upd (fcl (L ++ R) c p) s true)) (tcl (L ++ R) c) := (G.sound hc).slot p s true hs hT
    have hup : upp (fcl (L ++ R) c) p (upd (fcl (L ++ R) c p) s true) p = upd (fcl (L ++ R) c p) s true := if_pos rfl
    cases ht : tcl (less (L ++ R) (256 * p + s * sz c, sz c)) c p with
    | true =>
      obtain ⟨t, ht1, ht2⟩ := hw.1 ht
      have hwf : wh (per c) (upp (fcl (L ++ R) c) p (upd (fcl (L ++ R) c p) s true)) p = false := by
        rw [← Bool.not_eq_true, wh_iff hsd, hup]
        intro e
        rw [e] at ht2
        unfold ful at ht2
        simp at ht2
        omega
      obtain ⟨l1, l2, l3, l4⟩ := less_slot G hc hs hA ht
      refine (hrelease_slot h hok hL hc hcs.1 hcs.2 hp hsm (by dsimp only; omega) hT hs hF hwf).mono ?_
      rintro e w' ⟨rfl, w6, hd, hb, hf⟩
      refine ⟨rfl, h.shrink hL hd hf (fun k hk => .inr ⟨c, hc, by simpa using hk⟩) ?_ fun d hd2 => ?_⟩
      · rw [l1]
        exact (h.h.sets hd.2.2.2.2).p.fr hf (by simp; exact nb.1.2.1.symm) (by simp; exact nb.1.2.2.1.symm) (by simp; exact nb.1.2.2.2.1.symm)
      · by_cases e : d = c
        · subst e
          rw [l2, l3]; exact hb
        · rw [l2, l4 d hd2 e]
          exact ((h.h.sets hd.2.2.2.2).b d hd2).fr hf (by simp; exact nb.2 d hd2 e)
    | false =>
      have hwf : wh (per c) (upp (fcl (L ++ R) c) p (upd (fcl (L ++ R) c p) s true)) p = true := by
        rw [wh_iff hsd, hup]
        exact hw.2 ht
      obtain ⟨l0, l1, l2, l3, l4⟩ := less_page G hc hs hA ht
      have hpb := G.inn_bd (G.tcl_own hc hT)
      refine (hrelease_page h hok hL hc hcs.1 hcs.2 hp hsm (by dsimp only; omega) hT hs hF hwf (ok_put _ p 1 (by omega) (by omega) fun i hi => by rw [show p + i = p by omega]; exact l0)).mono ?_
      rintro e w' ⟨rfl, w6, hd, hb, hpl, hf⟩
      refine ⟨rfl, h.shrink hL hd hf (fun k hk => ?_) ?_ fun d hd2 => ?_⟩
      · simp at hk
        rcases hk with rfl | rfl
        · exact .inl rfl
        · exact .inr ⟨c, hc, rfl⟩
      · rw [l1]; exact hpl
      · by_cases e : d = c
        · subst e
          rw [l2, l3]; exact hb
        · rw [(l4 d hd2 e).1, (l4 d hd2 e).2]
          exact ((h.h.sets hd.2.2.2.2).b d hd2).fr hf (by simp; exact ⟨(ne_bk nd hd2).1.2.2.2.1, nb.2 d hd2 e⟩)
  · obtain ⟨a, ha⟩ : ∃ a, r.1 = 256 * a := ⟨r.1 / 256, by omega⟩
    obtain ⟨k, hk⟩ : ∃ k, r.2 = 256 * k := ⟨r.2 / 256, by omega⟩
    have hA2 := hA
    rw [show r = (256 * a, 256 * k) from Prod.ext ha hk] at hA2
    obtain ⟨l0, l1, l2⟩ := less_run G (by omega) hA2
    rw [← show r = (256 * a, 256 * k) from Prod.ext ha hk] at l1 l2
    refine (hrelease_run h hok hL ha hk (by omega) (ok_put _ a k (by omega) (by omega) l0)).mono ?_
    rintro e w' ⟨rfl, w6, hd, hpl, hf⟩
    refine ⟨rfl, h.shrink hL hd hf (fun k hk => .inl (by simpa using hk)) ?_ fun d hd2 => ?_⟩
    · rw [l1]; exact hpl
    · rw [(l2 d hd2).1, (l2 d hd2).2]
      exact ((h.h.sets hd.2.2.2.2).b d hd2).fr hf (by simp; exact (ne_bk nd hd2).1.2.2.2.1)
/-! ### the lists -/
theorem live_any (h : Hp w I own L R) : Calls Tryd.prog 11 #[.pointer (some ⟨I.hp, 0, none⟩)] w fun e w' => ∃ v, e = .returned v ∧ w'.ownsRow w.heap.size 31 2 v L.length (rgv L) ∧ Fr [] w w' := by
  have hroom := h.room
  have CN := Lib.hid (hnone_any h.h)
  have CL := Lib.hid (hlist_is h.l (fun x hx => (hroom.2.2.2.2 x (by simp [hx])).1) hroom.2.2.1 h.sl)
  obtain ⟨_, _, _, c8, _⟩ := h.h.cs
  clear h hroom
  go_enter Tryd.func11, Tryd.ntmps11
  go_wp2_with fail
  refine (CN.out).mono ?_
  rintro e w' ⟨rfl, rfl⟩
  go_wp2_with fail
  refine (CL.out).mono ?_
  rintro e w2 ⟨v, rfl, ho, hf⟩
  go_wp2
  go_ret
  exact ⟨v, rfl, ho, hf⟩
theorem rest_any (h : Hp w I own L R) : Calls Tryd.prog 12 #[.pointer (some ⟨I.hp, 0, none⟩)] w fun e w' => ∃ v, e = .returned v ∧ w'.ownsRow w.heap.size 31 2 v R.length (rgv R) ∧ Fr [] w w' := by
  have hroom := h.room
  have CN := Lib.hid (hnone_any h.h)
  have CL := Lib.hid (hlist_is h.r (fun x hx => (hroom.2.2.2.2 x (by simp [hx])).1) hroom.2.2.2.1 h.sr)
  obtain ⟨_, _, _, _, c9⟩ := h.h.cs
  clear h hroom
  go_enter Tryd.func12, Tryd.ntmps12
  go_wp2_with fail
  refine (CN.out).mono ?_
  rintro e w' ⟨rfl, rfl⟩
  go_wp2_with fail
  refine (CL.out).mono ?_
  rintro e w2 ⟨v, rfl, ho, hf⟩
  go_wp2
  go_ret
  exact ⟨v, rfl, ho, hf⟩
end
end Go.Proofs.YtdbpmojblgmhdaaDoor
