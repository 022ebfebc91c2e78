/-
  A sweep's beginning: the closure. Condition: as for a sweeper; less than a million sweeps.
-/
import Derived.Test.YthjbnbimfpbccaaGreatDoorJ12





set_option linter.unusedVariables false
namespace Go.Proofs.YthjbnbimfpbccaaGreatDoor
open Go.ChangeShapes Go.WideShapes Go.ChangeAt Go.RowKit
section
variable (w0 w : World) (i : Ids) (s : YS) (x : Sm) (pv : Option Addr) (h : Sv w0 w i s x pv)
include h
theorem swbegin1_yes (qs qn : Nat) (n0 : Int) (hq1 : w.cell? ⟨qs, 0, none⟩ = some (.pointer (some ⟨i.sp, 0, none⟩))) (hq2 : At w qn 28 #[.int .u64 n0]) (nf : qn ∉ s.foot) (hu : x.m.un = false) (he : x.m.ep < 1000000) :
    Calls Tryz.prog 45 #[.pointer (some ⟨qs, 0, none⟩), .pointer (some ⟨qn, 0, none⟩)] w fun r w' => r = .returned (.bool true) ∧ ∃ s' w2, TurnC w0 w i.y s (mBegin x.m) w2 s' ∧ At w' qn 28 #[.int .u64 ((x.m.ep + 1 : Nat) : Int)] ∧ Fr [qn] w2 w' := by
  have c2 := h.S.cell 2
  unfold Sm.cells at c2
  simp only [List.getElem?_toArray, List.getElem?_cons_zero, List.getElem?_cons_succ] at c2
  have CB := Lib.hid (begin_c h.Y he)
  rw [hu, if_neg (by simp), Bool.not_false] at CB
  have HQ := Lib.hid hq2
  have NF := Lib.hid nf
  obtain ⟨N, hN⟩ : ∃ N, x.m.ep + 1 = N := ⟨_, rfl⟩
  rw [hN] at CB ⊢
  clear h hq2 nf hu he hN
  go_enter Tryz.func45, Tryz.ntmps45
  go_wp2_with fail
  refine CB.out.mono ?_
  rintro e w2 ⟨rfl, s', ht⟩
  have HT := Lib.hid ht
  have Q2 := Lib.hid (HQ.out.fr ht.f NF.out)
  have q0 := Q2.out.cell 0
  have z0 := Q2.out.froz 0
  simp only [List.getElem?_toArray, List.getElem?_cons_zero] at q0
  clear ht CB
  go_wp2_with fail
  go_ret
  exact ⟨rfl, s', w2, HT.out, Q2.out.set 0 _, (Fr.refl _ _).set (.inl (by simp)) _⟩
end
/-- What a turn of the yard leaves of a sweeper's other parts. -/
theorem Sv.apart {w0 w w2 : World} {i : Ids} {s s' : YS} {x : Sm} {pv : Option Addr} {m' : MS} (h : Sv w0 w i s x pv) (ht : TurnC w0 w i.y s m' w2 s') :
    At w2 i.sp 109 (x.cells i pv) ∧ Gn w2 i.gp i.p i.g 16 x.F x.m.ep ∧ Ar w2 i.ap i.q i.ag i.bg i.cap x.bs x.f ∧ ∀ k ∈ i.mut, Offy w2 s' k := by
  have o : ∀ k ∈ i.mut, k ∉ s.foot := fun k hk => h.Y.nfootY (h.off k hk)
  obtain ⟨⟨_, hp⟩, _, hg⟩ := Gn.words h.G
  obtain ⟨a1, a2, a3, a4, a5, a6, ⟨b1, b2, b3, c, cs', b4, b5, b6, b7⟩, cs, a8, a9, a10⟩ := id h.A
  exact ⟨h.S.fr ht.f (o _ (by unfold Ids.mut; simp)), h.G.fr ht.f (o _ (by unfold Ids.mut; simp)) (h.Y.nfootT hp (by decide) (by decide) (by decide)) (o _ (by unfold Ids.mut; simp)),
    h.A.fr ht.f (h.Y.nfootT a6 (by decide) (by decide) (by decide)) (h.Y.nfootT b5 (by decide) (by decide) (by decide)) (o _ (by unfold Ids.mut; simp)) (o _ (by unfold Ids.mut; simp)), fun k hk => (h.off k hk).turn h.Y ht⟩
/-- A sweeper whose yard and whose book began anew. -/
theorem Sv.anew {w0 w w2 w' : World} {i : Ids} {s s' : YS} {x : Sm} {pv pv' : Option Addr} {m' : MS} {q : Nat} {cq : Array Value} (h : Sv w0 w i s x pv) (ht : TurnC w0 w i.y s m' w2 s') (hq : At w q 28 cq) (q0 : w0.heap.size ≤ q) (qc : q ≠ s.c ∧ q ≠ s.c') (qa : q ≠ i.ag) (f : Fr [q, i.gp, i.g, i.sp] w2 w') (x' : Sm)
    (hS : At w' i.sp 109 (x'.cells i pv')) (hP : Pn w' i s' pv' x'.hs) (hG : Gn w' i.gp i.p i.g 16 x'.F x'.m.ep) (hm : x'.m = m') (hb : x'.bs = x.bs) (hf : x'.f = x.f) (hn : m'.n = x.m.n) (un : x'.m.un = decide (x'.st ≠ 0)) (z : x'.st = 0 → cnt x'.F 16 = 0) : Sw w0 w' i s' x' pv' := by
  obtain ⟨hs2, hg2, ha2, o2⟩ := h.apart ht
  have oq : Offy w2 s' q := Offy.turn h.Y ht ⟨_, _, hq, by decide, by decide, by decide, by decide, fun _ => qc⟩
  have ne := h.ne
  have Y' : Yw w0 w' i.y m' s' := ht.yw.offY (S := [q, i.gp, i.g, i.sp]) (fun k hk => by
    rcases List.mem_cons.1 hk with rfl | hk
    · exact ⟨oq, q0⟩
    · have hm : k ∈ i.mut := by
        unfold Ids.mut
        simp only [List.mem_cons, List.not_mem_nil, or_false] at hk ⊢
        rcases hk with rfl | rfl | rfl <;> simp
      exact ⟨o2 k hm, h.hi k hm⟩) f
  obtain ⟨a1, a2, a3, a4, a5, a6, ⟨b1, b2, b3, c, cs', b4, b5, b6, b7⟩, cs, a8, a9, a10⟩ := id h.A
  have hm3 : ∀ k ∈ [i.gp, i.g, i.sp], k ∈ i.mut := by unfold Ids.mut; simp
  have p1 := h.notin hm3 a6 (by decide) (by decide) (by decide) (by decide)
  have p2 := h.notin hm3 b5 (by decide) (by decide) (by decide) (by decide)
  have p3 : i.ap ≠ q := a6.diff hq (by decide)
  have p4 : i.q ≠ q := b5.diff hq (by decide)
  have p5 : i.bg ≠ q := a8.diff hq (by decide)
  have A' : Ar w' i.ap i.q i.ag i.bg i.cap x.bs x.f := ha2.fr f (fun hk => by rcases List.mem_cons.1 hk with e | hk; exact p3 e; exact p1 hk) (fun hk => by rcases List.mem_cons.1 hk with e | hk; exact p4 e; exact p2 hk) (by simp; omega) (by simp; omega)
  have og := (o2 i.g (by unfold Ids.mut; simp))
  have oag := (o2 i.ag (by unfold Ids.mut; simp))
  refine ⟨⟨hS, hP, hG, by rw [hb, hf]; exact A', by rw [hm]; exact Y', h.T, h.d, ⟨?_, ?_⟩, h.hi, by rw [hm, hn]; exact h.n⟩, un, z⟩
  · obtain ⟨t, cs, hq, -, -, -, -, t5⟩ := og
    obtain ⟨_, _, hg'⟩ := Gn.words hg2
    exact t5 (hq.inj hg').1
  · obtain ⟨t, cs, hq, -, -, -, -, t5⟩ := oag
    obtain ⟨_, hag'⟩ := Ar.wordsAt ha2
    exact t5 (hq.inj hag').1
section
variable (w0 w : World) (i : Ids) (s : YS) (x : Sm) (pv : Option Addr) (h : Sw w0 w i s x pv)
include h
theorem swbegin_no (h1 : x.st ≠ 0) : Calls Tryz.prog 8 #[.pointer (some ⟨i.sp, 0, none⟩)] w fun r w' => r = .returned (.tuple #[.int .u64 0, .bool false]) ∧ Fr [] w w' := by
  obtain ⟨b0, hb0⟩ : ∃ b, w.heap.size = b := ⟨_, rfl⟩
  obtain ⟨w1, hw1⟩ : ∃ W, ((w.alloc (.cells #[.pointer (some ⟨i.sp, 0, none⟩)] 25)).alloc (.cells #[.int .u64 0] 28)).alloc (.cells #[.func (.func 45) #[] #[.pointer (some ⟨w.heap.size, 0, none⟩), .pointer (some ⟨w.heap.size + 1, 0, none⟩)]] 32) = W := ⟨_, rfl⟩
  have A1 := Lib.hid (show At w1 b0 25 #[.pointer (some ⟨i.sp, 0, none⟩)] from by (rw [← hw1, ← hb0]; repeat (first | exact At.nw (by first | rfl | simp only [World.size_alloc]) | refine At.old ?_ _)))
  have A2 := Lib.hid (show At w1 (b0 + 1) 28 #[.int .u64 0] from by (rw [← hw1, ← hb0]; repeat (first | exact At.nw (by first | rfl | simp only [World.size_alloc]) | refine At.old ?_ _)))
  have A3 := Lib.hid (show At w1 (b0 + 1 + 1) 32 #[.func (.func 45) #[] #[.pointer (some ⟨b0, 0, none⟩), .pointer (some ⟨b0 + 1, 0, none⟩)]] from by (rw [← hw1, ← hb0]; repeat (first | exact At.nw (by first | rfl | simp only [World.size_alloc]) | refine At.old ?_ _)))
  have F1 := Lib.hid (show Fr [] w w1 from by rw [← hw1]; exact (by repeat (first | exact Fr.refl _ _ | assumption | refine Fr.trans0 ?_ (by assumption) | refine Fr.drewN ?_ _ | refine Fr.alloc ?_ _ | refine Fr.drew ?_)))
  have S1 := Lib.hid (h.fr0 F1.out)
  have hgl := Lib.hid (show (i.gp < b0 ∧ i.p < b0 ∧ i.g < b0 ∧ i.sp < b0 ∧ i.ag < b0) ∧ (s.c < b0 ∧ s.c' < b0) ∧ (∀ k ∈ s.foot, k < b0) ∧ w0.heap.size ≤ b0 from by
    rw [← hb0]
    obtain ⟨_, hag⟩ := Ar.wordsAt h.A
    exact ⟨⟨h.G.lt.1, h.G.lt.2.1, h.G.lt.2.2, h.S.lt, hag.lt⟩, ⟨h.Y.yd.wt.lt.2.2, h.Y.yd.bt.lt.2.2⟩, foot_ltY h.Y, h.Y.f.size⟩)
  have HW1 := Lib.hid hw1
  have HB0 := Lib.hid hb0
  clear h hw1 hb0
  have c0 := S1.out.S.cell 0
  have c4 := S1.out.S.cell 4
  unfold Sm.cells at c0 c4
  simp only [List.getElem?_toArray, List.getElem?_cons_zero, List.getElem?_cons_succ] at c0 c4
  have CI := Lib.hid (swin_no w1 i.sp i.gp 0 x.st c0 c4 (.slice (some ⟨b0 + 1 + 1, 0, none⟩) 1 1) (by omega))
  clear h1 c0 c4
  go_enter Tryz.func8, Tryz.ntmps8
  go_wp2_with fail
  rw [HW1.out, HB0.out]
  refine CI.out.mono ?_
  rintro e w' ⟨rfl, rfl⟩
  go_wp2_with fail
  go_ret2
  exact ⟨rfl, F1.out⟩
set_option maxHeartbeats 1000000 in
set_option maxRecDepth 100000 in
theorem swbegin_yes (h1 : x.st = 0) (he : x.m.ep < 1000000) : Calls Tryz.prog 8 #[.pointer (some ⟨i.sp, 0, none⟩)] w fun r w' => r = .returned (.tuple #[.int .u64 (x.m.ep + 1 : Nat), .bool true]) ∧ ∃ s' pv', Sw w0 w' i s' { x with st := 1, m := mBegin x.m, F := fstF 16, hs := hasP 256 (cov x.m.lw) } pv' ∧ Fr (i.sp :: i.gp :: i.g :: s.foot) w w' := by
  obtain ⟨b0, hb0⟩ : ∃ b, w.heap.size = b := ⟨_, rfl⟩
  obtain ⟨w1, hw1⟩ : ∃ W, ((w.alloc (.cells #[.pointer (some ⟨i.sp, 0, none⟩)] 25)).alloc (.cells #[.int .u64 0] 28)).alloc (.cells #[.func (.func 45) #[] #[.pointer (some ⟨w.heap.size, 0, none⟩), .pointer (some ⟨w.heap.size + 1, 0, none⟩)]] 32) = W := ⟨_, rfl⟩
  have A1 := Lib.hid (show At w1 b0 25 #[.pointer (some ⟨i.sp, 0, none⟩)] from by (rw [← hw1, ← hb0]; repeat (first | exact At.nw (by first | rfl | simp only [World.size_alloc]) | refine At.old ?_ _)))
  have A2 := Lib.hid (show At w1 (b0 + 1) 28 #[.int .u64 0] from by (rw [← hw1, ← hb0]; repeat (first | exact At.nw (by first | rfl | simp only [World.size_alloc]) | refine At.old ?_ _)))
  have A3 := Lib.hid (show At w1 (b0 + 1 + 1) 32 #[.func (.func 45) #[] #[.pointer (some ⟨b0, 0, none⟩), .pointer (some ⟨b0 + 1, 0, none⟩)]] from by (rw [← hw1, ← hb0]; repeat (first | exact At.nw (by first | rfl | simp only [World.size_alloc]) | refine At.old ?_ _)))
  have F1 := Lib.hid (show Fr [] w w1 from by rw [← hw1]; exact (by repeat (first | exact Fr.refl _ _ | assumption | refine Fr.trans0 ?_ (by assumption) | refine Fr.drewN ?_ _ | refine Fr.alloc ?_ _ | refine Fr.drew ?_)))
  have S1 := Lib.hid (h.fr0 F1.out)
  have hgl := Lib.hid (show (i.gp < b0 ∧ i.p < b0 ∧ i.g < b0 ∧ i.sp < b0 ∧ i.ag < b0) ∧ (s.c < b0 ∧ s.c' < b0) ∧ (∀ k ∈ s.foot, k < b0) ∧ w0.heap.size ≤ b0 from by
    rw [← hb0]
    obtain ⟨_, hag⟩ := Ar.wordsAt h.A
    exact ⟨⟨h.G.lt.1, h.G.lt.2.1, h.G.lt.2.2, h.S.lt, hag.lt⟩, ⟨h.Y.yd.wt.lt.2.2, h.Y.yd.bt.lt.2.2⟩, foot_ltY h.Y, h.Y.f.size⟩)
  have HW1 := Lib.hid hw1
  have HB0 := Lib.hid hb0
  clear h hw1 hb0
  have c0 := S1.out.S.cell 0
  have c4 := S1.out.S.cell 4
  unfold Sm.cells at c0 c4
  simp only [List.getElem?_toArray, List.getElem?_cons_zero, List.getElem?_cons_succ] at c0 c4
  have hun : x.m.un = false := by rw [S1.out.un, h1]; rfl
  have HUN := Lib.hid hun
  have HC := Lib.hid (S1.out.z h1)
  have CV := Lib.hid (swbegin1_yes w0 w1 i s x pv S1.out.toSv b0 (b0 + 1) 0 (A1.out.cell 0) A2.out (fun hk => by have := hgl.out.2.2.1 _ hk; omega) hun he)
  have CI := Lib.hid (swin_1 w1 i.sp i.gp 0 x.st c0 c4 (b0 + 1 + 1) 1 45 #[.pointer (some ⟨b0, 0, none⟩), .pointer (some ⟨b0 + 1, 0, none⟩)] (fun w' => ∃ s' w2, TurnC w0 w1 i.y s (mBegin x.m) w2 s' ∧ At w' (b0 + 1) 28 #[.int .u64 ((x.m.ep + 1 : Nat) : Int)] ∧ Fr [b0 + 1] w2 w') true (by omega) (A3.out.cell 0) (fun args w => by kernel_rfl) CV.out)
  have HM := Lib.hid (show (mBegin x.m).n = x.m.n ∧ (mBegin x.m).ep = x.m.ep + 1 ∧ (mBegin x.m).un = true ∧ (mBegin x.m).lb = x.m.lw from by unfold mBegin; rw [hun]; simp)
  have H1 := Lib.hid h1
  clear h1 c0 c4 CV hun
  obtain ⟨N, hN⟩ : ∃ N, x.m.ep + 1 = N := ⟨_, rfl⟩
  have HNN := Lib.hid hN
  rw [hN] at CI ⊢
  clear hN he
  go_enter Tryz.func8, Tryz.ntmps8
  go_wp2_with fail
  rw [HW1.out, HB0.out]
  refine CI.out.mono ?_
  rintro e w3 ⟨rfl, s', w2, ht, hq3, hf3⟩
  have HT := Lib.hid ht
  have Q3 := Lib.hid hq3
  have F3 := Lib.hid hf3
  clear ht hq3 hf3 CI
  have AP := Lib.hid (S1.out.toSv.apart HT.out)
  have G3 := Lib.hid (AP.out.2.1.fr F3.out (by have := hgl.out; simp; omega) (by have := hgl.out; simp; omega) (by have := hgl.out; simp; omega))
  have SP3 := Lib.hid (AP.out.1.fr F3.out (by have := hgl.out; simp; omega))
  have Y3 := Lib.hid (HT.out.yw.offY (S := [b0 + 1]) (fun k hk => by
    simp only [List.mem_cons, List.not_mem_nil, or_false] at hk
    subst hk
    have := hgl.out
    exact ⟨Offy.turn S1.out.Y HT.out ⟨_, _, A2.out, by decide, by decide, by decide, by decide, fun _ => by omega⟩, by omega⟩) F3.out)
  have B3 := Lib.hid ((A1.out.fr HT.out.f (fun hk => by have := hgl.out.2.2.1 _ hk; omega)).fr F3.out (by simp))
  have CG := Lib.hid fun W (hW : Fr [] w3 W) => gstart_yes W _ _ _ _ _ _ (G3.out.fr hW (by simp) (by simp) (by simp)) N (by have := HNN.out; omega) HC.out
  go_upto_region 5 with (fail)
  have q0 := SP3.out.cell 0
  have q2 := SP3.out.cell 2
  unfold Sm.cells at q0 q2
  simp only [List.getElem?_toArray, List.getElem?_cons_zero, List.getElem?_cons_succ] at q0 q2
  have Q0 := Lib.hid fun W (hW : Fr [] w3 W) => (B3.out.fr hW (by simp)).cell 0
  have Q4 := Lib.hid fun W (hW : Fr [] w3 W) => (Q3.out.fr hW (by simp)).cell 0
  have QG := Lib.hid fun W (hW : Fr [] w3 W) => (hW.cell (a := ⟨i.sp, 0, none⟩) SP3.out.lt (by simp)).trans q0
  have HQ2 := Lib.hid q2
  clear q0 q2
  refine wp_region_L (fun W => Fr [] w3 W) [5] (by kernel_rfl) ((Fr.refl _ _).drew) (fun hHeld => ?_)
  refine wpAnyL_take (i := 0) (v := ?_) rfl (by kernel_rfl) (fun _ _ _ h => h) (Or.inl ⟨by rfl, ?_⟩) (by assumption) ?_; rotate_left; (focus (intro w hSw; (have cc := Q0.out _ hSw); go_simp; (try with_reducible rfl))); (try (refine wpAnyL_norm (by simp only [Act.put, List.setIfInBounds_toArray, List.set_cons_zero, List.set_cons_succ]; rfl) ?_))
  refine wpAnyL_take (i := 1) (v := ?_) rfl (by kernel_rfl) (fun _ _ _ h => h) (Or.inl ⟨by rfl, ?_⟩) (by assumption) ?_; rotate_left; (focus (intro w hSw; skip; go_simp; (try with_reducible rfl))); (try (refine wpAnyL_norm (by simp only [Act.put, List.setIfInBounds_toArray, List.set_cons_zero, List.set_cons_succ]; rfl) ?_))
  refine wpAnyL_take (i := 2) (v := ?_) rfl (by kernel_rfl) (fun _ _ _ h => h) (Or.inl ⟨by rfl, ?_⟩) (by assumption) ?_; rotate_left; (focus (intro w hSw; skip; go_simp; (try with_reducible rfl))); (try (refine wpAnyL_norm (by simp only [Act.put, List.setIfInBounds_toArray, List.set_cons_zero, List.set_cons_succ]; rfl) ?_))
  refine wpAnyL_take (i := 3) (v := ?_) rfl (by kernel_rfl) (fun _ _ _ h => h) (Or.inl ⟨by rfl, ?_⟩) (by assumption) ?_; rotate_left; (focus (intro w hSw; (have cc := QG.out _ hSw); go_simp; (try with_reducible rfl))); (try (refine wpAnyL_norm (by simp only [Act.put, List.setIfInBounds_toArray, List.set_cons_zero, List.set_cons_succ]; rfl) ?_))
  refine wpAnyL_take (i := 4) (v := ?_) rfl (by kernel_rfl) (fun _ _ _ h => h) (Or.inl ⟨by rfl, ?_⟩) (by assumption) ?_; rotate_left; (focus (intro w hSw; (have cc := Q4.out _ hSw); go_simp; (try with_reducible rfl))); (try (refine wpAnyL_norm (by simp only [Act.put, List.setIfInBounds_toArray, List.set_cons_zero, List.set_cons_succ]; rfl) ?_))
  have F34 := hHeld
  refine wpAnyL_ready (rs := [5]) (by kernel_rfl) (by simp) ?_; refine AllReadyL.cons rfl (fun K hK => ?_) AllReadyL.nil
  go_simp
  refine (CG.out _ F34).mono ?_
  rintro e w4 ⟨rfl, hg4, hf4⟩
  have G4 := Lib.hid hg4
  have F4 := Lib.hid ((F34.more (T := [i.gp, i.g]) (by simp)).trans hf4 (fun k hk => .inl hk))
  clear hg4 hf4 F34 CG
  refine hK.out _ _ (fun h => (h (by decide)).elim) (fun _ => ?_); clear hK K; (try (refine wpAnyL_norm (by simp only [Act.put, List.setIfInBounds_toArray, List.set_cons_zero, List.set_cons_succ]; rfl) ?_))
  refine wpAnyL_done (by kernel_rfl) ?_ _
  have NE := Lib.hid S1.out.ne
  have SP4 := Lib.hid (SP3.out.fr F4.out (by have := NE.out; simp; omega))
  have B4 := Lib.hid (B3.out.fr F4.out (by have := hgl.out; simp; omega))
  have N4 := Lib.hid (Q3.out.fr F4.out (by have := hgl.out; simp; omega))
  have F24 := Lib.hid ((F3.out.more (T := [b0 + 1, i.gp, i.g]) (by simp)).trans F4.out (by simp))
  have OQ := Lib.hid (show Offy w2 s' (b0 + 1) from Offy.turn S1.out.Y HT.out ⟨_, _, A2.out, by decide, by decide, by decide, by decide, fun _ => by have := hgl.out; omega⟩)
  have Y4 := Lib.hid (HT.out.yw.offY (S := [b0 + 1, i.gp, i.g]) (fun k hk => by
    rcases List.mem_cons.1 hk with rfl | hk
    · exact ⟨OQ.out, by have := hgl.out; omega⟩
    · have hm : k ∈ i.mut := by
        unfold Ids.mut
        simp only [List.mem_cons, List.not_mem_nil, or_false] at hk ⊢
        rcases hk with rfl | rfl <;> simp
      exact ⟨AP.out.2.2.2 k hm, S1.out.hi k hm⟩) F24.out)
  clear Q0 Q4 QG hHeld
  go_upto_region 6 with (fail)
  have q2 := SP4.out.cell 2
  unfold Sm.cells at q2
  simp only [List.getElem?_toArray, List.getElem?_cons_zero, List.getElem?_cons_succ] at q2
  have Q2 := Lib.hid q2
  clear q2
  have CP := Lib.hid fun W (hW : Fr [] w4 W) => paint_m (Y4.out.fr hW)
  refine wp_region_L (fun W => W.cell? ⟨b0, 0, none⟩ = some (.pointer (some ⟨i.sp, 0, none⟩)) ∧ W.cell? ⟨i.sp, 2, none⟩ = some (.pointer (some ⟨i.y, 0, none⟩))) [12] (by kernel_rfl) ⟨B4.out.cell 0, Q2.out⟩ (fun hHeld => ?_)
  refine wpAnyL_take (i := 0) (v := ?_) rfl (by kernel_rfl) (fun _ _ _ h => h) (Or.inl ⟨by rfl, ?_⟩) (by assumption) ?_; rotate_left; (focus (intro w hSw; (have cc := hSw.1); go_simp; (try with_reducible rfl))); (try (refine wpAnyL_norm (by simp only [Act.put, List.setIfInBounds_toArray, List.set_cons_zero, List.set_cons_succ]; rfl) ?_))
  refine wpAnyL_take (i := 1) (v := ?_) rfl (by kernel_rfl) (fun _ _ _ h => h) (Or.inl ⟨by rfl, ?_⟩) (by assumption) ?_; rotate_left; (focus (intro w hSw; (have cc := hSw.1); go_simp; (try with_reducible rfl))); (try (refine wpAnyL_norm (by simp only [Act.put, List.setIfInBounds_toArray, List.set_cons_zero, List.set_cons_succ]; rfl) ?_))
  refine wpAnyL_take (i := 2) (v := ?_) rfl (by kernel_rfl) (fun _ _ _ h => h) (Or.inl ⟨by rfl, ?_⟩) (by assumption) ?_; rotate_left; (focus (intro w hSw; (have cc := hSw.1); go_simp; (try with_reducible rfl))); (try (refine wpAnyL_norm (by simp only [Act.put, List.setIfInBounds_toArray, List.set_cons_zero, List.set_cons_succ]; rfl) ?_))
  refine wpAnyL_take (i := 3) (v := ?_) rfl (by kernel_rfl) (fun _ _ _ h => h) (Or.inl ⟨by rfl, ?_⟩) (by assumption) ?_; rotate_left; (focus (intro w hSw; skip; go_simp; (try with_reducible rfl))); (try (refine wpAnyL_norm (by simp only [Act.put, List.setIfInBounds_toArray, List.set_cons_zero, List.set_cons_succ]; rfl) ?_))
  refine wpAnyL_take (i := 4) (v := ?_) rfl (by kernel_rfl) (fun _ _ _ h => h) (Or.inl ⟨by rfl, ?_⟩) (by assumption) ?_; rotate_left; (focus (intro w hSw; skip; go_simp; (try with_reducible rfl))); (try (refine wpAnyL_norm (by simp only [Act.put, List.setIfInBounds_toArray, List.set_cons_zero, List.set_cons_succ]; rfl) ?_))
  refine wpAnyL_take (i := 5) (v := ?_) rfl (by kernel_rfl) (fun _ _ _ h => h) (Or.inl ⟨by rfl, ?_⟩) (by assumption) ?_; rotate_left; (focus (intro w hSw; (have cc := hSw.2); go_simp; (try with_reducible rfl))); (try (refine wpAnyL_norm (by simp only [Act.put, List.setIfInBounds_toArray, List.set_cons_zero, List.set_cons_succ]; rfl) ?_))
  refine wpAnyL_ready (rs := [6]) (by kernel_rfl) (by simp) ?_; refine AllReadyL.cons rfl (fun K hK => ?_) AllReadyL.nil
  go_simp
  refine (CP.out _ ((Fr.refl [] w4).drew)).mono ?_
  rintro e w5 ⟨pp, pq, pg, rfl, hpt, hnew, hf5⟩
  have F5 := Lib.hid ((Fr.refl [] w4).drew.trans0 hf5)
  have PT5 := Lib.hid hpt
  have HNW := Lib.hid (show w4.heap.size ≤ pp ∧ w4.heap.size ≤ pq ∧ w4.heap.size ≤ pg from hnew)
  have SP5 := Lib.hid (SP4.out.fr F5.out (by simp))
  have B5 := Lib.hid (B4.out.fr F5.out (by simp))
  have N5 := Lib.hid (N4.out.fr F5.out (by simp))
  refine hK.out _ _ (fun _ => ⟨B5.out.cell 0, (hf5.cell (a := ⟨i.sp, 2, none⟩) SP4.out.lt (by simp)).trans Q2.out⟩) (fun hHeld' => ?_); have hHeld := hHeld' (by decide); clear hHeld' hK K; (try (refine wpAnyL_norm (by simp only [Act.put, List.setIfInBounds_toArray, List.set_cons_zero, List.set_cons_succ]; rfl) ?_))
  clear hpt hnew hf5 CP
  refine wpAnyL_take (i := 7) (v := ?_) rfl (by kernel_rfl) (fun _ _ _ h => h) (Or.inl ⟨by rfl, ?_⟩) (by assumption) ?_; rotate_left; (focus (intro w hSw; skip; go_simp; (try with_reducible rfl))); (try (refine wpAnyL_norm (by simp only [Act.put, List.setIfInBounds_toArray, List.set_cons_zero, List.set_cons_succ]; rfl) ?_))
  refine wpAnyL_take (i := 8) (v := ?_) rfl (by kernel_rfl) (fun _ _ _ h => h) (Or.inl ⟨by rfl, ?_⟩) (by assumption) ?_; rotate_left; (focus (intro w hSw; skip; go_simp; (try with_reducible rfl))); (try (refine wpAnyL_norm (by simp only [Act.put, List.setIfInBounds_toArray, List.set_cons_zero, List.set_cons_succ]; rfl) ?_))
  have z3 := SP5.out.froz 3
  have c3 := SP5.out.cell 3
  unfold Sm.cells at c3
  simp only [List.getElem?_toArray, List.getElem?_cons_zero, List.getElem?_cons_succ] at c3
  refine wpAnyL_ready (rs := [9]) (by kernel_rfl) (by simp) ?_; refine AllReadyL.cons rfl (fun K hK => ?_) AllReadyL.nil
  go_simp
  have f6 : Fr [i.sp] w5 (w5.setCell ⟨i.sp, 3, none⟩ (.pointer (some ⟨pp, 0, none⟩))) := (Fr.refl _ _).set (.inl (by simp)) _
  have SP6 := Lib.hid (SP5.out.set 3 (.pointer (some ⟨pp, 0, none⟩)))
  have F6 := Lib.hid f6
  have B6 := Lib.hid (B5.out.fr f6 (by have := hgl.out; simp; omega))
  have N6 := Lib.hid (N5.out.fr f6 (by have := hgl.out; simp; omega))
  obtain ⟨w6, hw6⟩ : ∃ W, w5.setCell ⟨i.sp, 3, none⟩ (.pointer (some ⟨pp, 0, none⟩)) = W := ⟨_, rfl⟩
  rw [hw6] at SP6 F6 B6 N6 ⊢
  have k2 := SP6.out.cell 2
  have z4 := SP6.out.froz 4
  have c4 := SP6.out.cell 4
  unfold Sm.cells at k2 c4
  simp only [List.setIfInBounds_toArray, List.set_cons_succ, List.set_cons_zero, List.getElem?_toArray, List.getElem?_cons_zero, List.getElem?_cons_succ] at k2 c4
  refine hK.out _ _ (fun _ => ⟨B6.out.cell 0, k2⟩) (fun hHeld' => ?_); have hHeld := hHeld' (by decide); clear hHeld' hK K; (try (refine wpAnyL_norm (by simp only [Act.put, List.setIfInBounds_toArray, List.set_cons_zero, List.set_cons_succ]; rfl) ?_))
  clear z3 c3 f6 hw6 k2
  refine wpAnyL_take (i := 10) (v := ?_) rfl (by kernel_rfl) (fun _ _ _ h => h) (Or.inl ⟨by rfl, ?_⟩) (by assumption) ?_; rotate_left; (focus (intro w hSw; skip; go_simp; (try with_reducible rfl))); (try (refine wpAnyL_norm (by simp only [Act.put, List.setIfInBounds_toArray, List.set_cons_zero, List.set_cons_succ]; rfl) ?_))
  refine wpAnyL_take (i := 11) (v := ?_) rfl (by kernel_rfl) (fun _ _ _ h => h) (Or.inl ⟨by rfl, ?_⟩) (by assumption) ?_; rotate_left; (focus (intro w hSw; skip; go_simp; (try with_reducible rfl))); (try (refine wpAnyL_norm (by simp only [Act.put, List.setIfInBounds_toArray, List.set_cons_zero, List.set_cons_succ]; rfl) ?_))
  refine wpAnyL_ready (rs := [12]) (by kernel_rfl) (by simp) ?_; refine AllReadyL.cons rfl (fun K hK => ?_) AllReadyL.nil
  go_simp
  have f7 : Fr [i.sp] w6 (w6.setCell ⟨i.sp, 4, none⟩ (.int .i64 1)) := (Fr.refl _ _).set (.inl (by simp)) _
  have SP7 := Lib.hid (SP6.out.set 4 (.int .i64 1))
  have F7 := Lib.hid f7
  have N7 := Lib.hid (N6.out.fr f7 (by have := hgl.out; simp; omega))
  obtain ⟨w7, hw7⟩ : ∃ W, w6.setCell ⟨i.sp, 4, none⟩ (.int .i64 1) = W := ⟨_, rfl⟩
  rw [hw7] at SP7 F7 N7 ⊢
  refine hK.out _ _ (fun h => (h (by decide)).elim) (fun _ => ?_); clear hK K; (try (refine wpAnyL_norm (by simp only [Act.put, List.setIfInBounds_toArray, List.set_cons_zero, List.set_cons_succ]; rfl) ?_))
  refine wpAnyL_done (by kernel_rfl) ?_ _
  clear z4 c4 f7 hw7 hHeld
  have n0 := N7.out.cell 0
  simp only [List.getElem?_toArray, List.getElem?_cons_zero] at n0
  go_wp2_with fail
  go_ret2
  have F47 := Lib.hid (((F5.out.more (T := [i.sp]) (by simp)).trans F6.out (fun k hk => .inl hk)).trans F7.out (fun k hk => .inl hk))
  have F27 := Lib.hid ((F24.out.more (T := [b0 + 1, i.gp, i.g, i.sp]) (by simp)).trans F47.out (by simp))
  have PT7 := Lib.hid ((PT5.out.fr F6.out (by have := HNW.out; have := SP4.out.lt; simp; omega) (by have := HNW.out; have := SP4.out.lt; simp; omega) (by have := HNW.out; have := SP4.out.lt; simp; omega)).fr F7.out (by have := HNW.out; have := SP4.out.lt; simp; omega) (by have := HNW.out; have := SP4.out.lt; simp; omega) (by have := HNW.out; have := SP4.out.lt; simp; omega))
  have G7 := Lib.hid (G4.out.fr F47.out (by have := NE.out; simp; omega) (by
    obtain ⟨⟨cs, k1⟩, _⟩ := Gn.words S1.out.G
    exact S1.out.notin (S := [i.sp]) (by unfold Ids.mut; simp) k1 (by decide) (by decide) (by decide) (by decide)) (by have := NE.out; simp; omega))
  have hsz : w2.heap.size ≤ w4.heap.size := F24.out.size
  have h01 : b0 ≤ w2.heap.size := by have := HT.out.f.size; have := F1.out.size; have := HB0.out; omega
  refine ⟨rfl, s', some ⟨pp, 0, none⟩, ?_, ?_⟩
  · refine S1.out.toSv.anew HT.out A2.out (by have := hgl.out; omega) (by have := hgl.out; omega) (by have := hgl.out; omega) F27.out _ ?_ ?_ ?_ rfl rfl rfl HM.out.1 HM.out.2.2.1 (fun e => absurd e (by simp))
    · have := SP7.out
      unfold Sm.cells at this ⊢
      simpa using this
    · refine .inr ⟨pp, pq, pg, 256, cov x.m.lw, rfl, ?_, rfl, ?_, ?_, ?_⟩
      · have := PT7.out
        rw [HM.out.1, HM.out.2.2.2, S1.out.n] at this
        exact this
      · have := HNW.out; have := hgl.out; omega
      · have := HNW.out; have := hgl.out; omega
      · intro hin
        have := foot_ltY HT.out.yw _ hin
        have := HNW.out
        omega
    · have := G7.out
      dsimp only
      rw [HM.out.2.1, HNN.out]
      exact this
  · have g1 : Fr (i.sp :: i.gp :: i.g :: s.foot) w w2 := (F1.out.more (T := i.sp :: i.gp :: i.g :: s.foot) (by simp)).trans HT.out.f (fun k hk => .inl (by simp [hk]))
    refine g1.trans F27.out (fun k hk => ?_)
    simp only [List.mem_cons, List.not_mem_nil, or_false] at hk
    rcases hk with rfl | rfl | rfl | rfl
    · exact .inr (by have := HB0.out; omega)
    · exact .inl (by simp)
    · exact .inl (by simp)
    · exact .inl (by simp)
end
end Go.Proofs.YthjbnbimfpbccaaGreatDoor
/-
  A sweeper's small functions: Stopping, Go, Left, Visited, Old. Condition: as for a sweeper.
-/



set_option linter.unusedVariables false
namespace Go.Proofs.YthjbnbimfpbccaaGreatDoor
open Go.ChangeShapes Go.WideShapes Go.ChangeAt Go.RowKit
section
variable (w0 w : World) (i : Ids) (s : YS) (x : Sm) (pv : Option Addr) (h : Sw w0 w i s x pv)
include h
theorem swstop_any : Calls Tryz.prog 20 #[.pointer (some ⟨i.sp, 0, none⟩)] w fun r w' => r = .returned (.bool (decide (x.st = 1))) ∧ w = w' := by
  have c0 := h.S.cell 0
  have c1 := h.S.cell 1
  have c2 := h.S.cell 2
  have c3 := h.S.cell 3
  have c4 := h.S.cell 4
  have c5 := h.S.cell 5
  unfold Sm.cells at c0 c1 c2 c3 c4 c5
  simp only [List.getElem?_toArray, List.getElem?_cons_zero, List.getElem?_cons_succ] at c0 c1 c2 c3 c4 c5
  by_cases h1 : x.st = 1
  · have CI := Lib.hid (swin_0 w i.sp i.gp 1 x.st c0 c4 0 (by omega))
    rw [decide_eq_true h1]
    clear h h1 c0 c1 c2 c3 c4 c5
    go_enter Tryz.func20, Tryz.ntmps20
    go_wp2_with fail
    refine CI.out.mono ?_
    rintro e w' ⟨rfl, rfl⟩
    go_wp2_with fail
    go_ret
    exact ⟨rfl, rfl⟩
  · have CI := Lib.hid (swin_no w i.sp i.gp 1 x.st c0 c4 (.slice none 0 0) (by omega))
    rw [decide_eq_false h1]
    clear h h1 c0 c1 c2 c3 c4 c5
    go_enter Tryz.func20, Tryz.ntmps20
    go_wp2_with fail
    refine CI.out.mono ?_
    rintro e w' ⟨rfl, rfl⟩
    go_wp2_with fail
    go_ret
    exact ⟨rfl, rfl⟩
theorem swgo_yes (h1 : x.st = 1) : Calls Tryz.prog 10 #[.pointer (some ⟨i.sp, 0, none⟩)] w fun r w' => r = .returned (.bool true) ∧ Sw w0 w' i s { x with st := 2 } pv ∧ Fr [i.sp] w w' := by
  have H := Lib.hid h
  have c0 := h.S.cell 0
  have c1 := h.S.cell 1
  have c2 := h.S.cell 2
  have c3 := h.S.cell 3
  have c4 := h.S.cell 4
  have c5 := h.S.cell 5
  unfold Sm.cells at c0 c1 c2 c3 c4 c5
  simp only [List.getElem?_toArray, List.getElem?_cons_zero, List.getElem?_cons_succ] at c0 c1 c2 c3 c4 c5
  have z4 := h.S.froz 4
  have CI := Lib.hid (swin_0 w i.sp i.gp 1 x.st c0 c4 0 (by omega))
  have H1 := Lib.hid h1
  clear h h1
  go_enter Tryz.func10, Tryz.ntmps10
  go_wp2_with fail
  refine CI.out.mono ?_
  rintro e w' ⟨rfl, rfl⟩
  go_wp2_with fail
  go_ret
  have f : Fr [i.sp] w (w.setCell ⟨i.sp, 4, none⟩ (.int .i64 2)) := (Fr.refl _ _).set (.inl (by simp)) _
  exact ⟨rfl, H.out.self 2 x.vis x.hs f (H.out.S.set 4 _) (H.out.paint (S := [i.sp]) (by unfold Ids.mut; simp) f) (by rw [H.out.un, H1.out]; rfl) (by omega), f⟩
theorem swgo_no (h1 : x.st ≠ 1) : Calls Tryz.prog 10 #[.pointer (some ⟨i.sp, 0, none⟩)] w fun r w' => r = .returned (.bool false) ∧ w = w' := by
  have c0 := h.S.cell 0
  have c1 := h.S.cell 1
  have c2 := h.S.cell 2
  have c3 := h.S.cell 3
  have c4 := h.S.cell 4
  have c5 := h.S.cell 5
  unfold Sm.cells at c0 c1 c2 c3 c4 c5
  simp only [List.getElem?_toArray, List.getElem?_cons_zero, List.getElem?_cons_succ] at c0 c1 c2 c3 c4 c5
  have CI := Lib.hid (swin_no w i.sp i.gp 1 x.st c0 c4 (.slice none 0 0) (by omega))
  clear h h1 c0 c1 c2 c3 c4 c5
  go_enter Tryz.func10, Tryz.ntmps10
  go_wp2_with fail
  refine CI.out.mono ?_
  rintro e w' ⟨rfl, rfl⟩
  go_wp2_with fail
  go_ret
  exact ⟨rfl, rfl⟩
theorem swleft_any : Calls Tryz.prog 9 #[.pointer (some ⟨i.sp, 0, none⟩)] w fun r w' => r = .returned (.int .i64 (cnt x.F 16)) ∧ w = w' := by
  have c0 := h.S.cell 0
  have c1 := h.S.cell 1
  have c2 := h.S.cell 2
  have c3 := h.S.cell 3
  have c4 := h.S.cell 4
  have c5 := h.S.cell 5
  unfold Sm.cells at c0 c1 c2 c3 c4 c5
  simp only [List.getElem?_toArray, List.getElem?_cons_zero, List.getElem?_cons_succ] at c0 c1 c2 c3 c4 c5
  have CL := Lib.hid (gleft_any w _ _ _ _ _ _ h.G)
  clear h c1 c2 c3 c4 c5
  go_enter Tryz.func9, Tryz.ntmps9
  go_wp2_with fail
  refine CL.out.mono ?_
  rintro e w' ⟨rfl, rfl⟩
  go_wp2_with fail
  go_ret
  exact ⟨rfl, rfl⟩
theorem swvis_any : Calls Tryz.prog 15 #[.pointer (some ⟨i.sp, 0, none⟩)] w fun r w' => r = .returned (.int .u64 (x.vis : Nat)) ∧ w = w' := by
  have c0 := h.S.cell 0
  have c1 := h.S.cell 1
  have c2 := h.S.cell 2
  have c3 := h.S.cell 3
  have c4 := h.S.cell 4
  have c5 := h.S.cell 5
  unfold Sm.cells at c0 c1 c2 c3 c4 c5
  simp only [List.getElem?_toArray, List.getElem?_cons_zero, List.getElem?_cons_succ] at c0 c1 c2 c3 c4 c5
  clear h c0 c1 c2 c3 c4
  go_enter Tryz.func15, Tryz.ntmps15
  go_wp2_with fail
  go_ret
  exact ⟨rfl, rfl⟩
theorem swold_any (h2 : x.st ≤ 2) (page : Int) : Calls Tryz.prog 11 #[.pointer (some ⟨i.sp, 0, none⟩), .int .i64 page] w fun r w' => r = .returned (.bool (decide (x.st ≠ 0) && (inR page 16 && x.F page.toNat))) ∧ w = w' := by
  have c0 := h.S.cell 0
  have c1 := h.S.cell 1
  have c2 := h.S.cell 2
  have c3 := h.S.cell 3
  have c4 := h.S.cell 4
  have c5 := h.S.cell 5
  unfold Sm.cells at c0 c1 c2 c3 c4 c5
  simp only [List.getElem?_toArray, List.getElem?_cons_zero, List.getElem?_cons_succ] at c0 c1 c2 c3 c4 c5
  have CO := Lib.hid (gold_any w _ _ _ _ _ _ h.G page)
  obtain ⟨B, hB⟩ : ∃ B, (inR page 16 && x.F page.toNat) = B := ⟨_, rfl⟩
  rw [hB] at CO ⊢
  have C1 := Lib.hid (swin_0 w i.sp i.gp 1 x.st c0 c4 0)
  have C2 := Lib.hid (swin_0 w i.sp i.gp 2 x.st c0 c4 0)
  have N1 := Lib.hid (swin_no w i.sp i.gp 1 x.st c0 c4 (.slice none 0 0))
  have N2 := Lib.hid (swin_no w i.sp i.gp 2 x.st c0 c4 (.slice none 0 0))
  obtain ⟨st, hst⟩ : ∃ st, x.st = st := ⟨_, rfl⟩
  rw [hst] at C1 C2 N1 N2 h2 ⊢
  clear h hB c1 c2 c3 c4 c5 hst
  rcases (show st = 0 ∨ st = 1 ∨ st = 2 by omega) with rfl | rfl | rfl
  · rw [decide_eq_false (by simp), Bool.false_and]
    go_enter Tryz.func11, Tryz.ntmps11
    go_wp2_with fail
    refine (N1.out (by decide)).mono ?_
    rintro e w' ⟨rfl, rfl⟩
    go_wp2_with fail
    refine (N2.out (by decide)).mono ?_
    rintro e w' ⟨rfl, rfl⟩
    go_wp2_with fail
    go_ret
    exact ⟨rfl, rfl⟩
  · rw [decide_eq_true (by simp), Bool.true_and]
    go_enter Tryz.func11, Tryz.ntmps11
    go_wp2_with fail
    refine (C1.out rfl).mono ?_
    rintro e w' ⟨rfl, rfl⟩
    go_wp2_with fail
    refine CO.out.mono ?_
    rintro e w' ⟨rfl, rfl⟩
    go_wp2_with fail
    go_ret
    exact ⟨rfl, rfl⟩
  · rw [decide_eq_true (by simp), Bool.true_and]
    go_enter Tryz.func11, Tryz.ntmps11
    go_wp2_with fail
    refine (N1.out (by decide)).mono ?_
    rintro e w' ⟨rfl, rfl⟩
    go_wp2_with fail
    refine (C2.out rfl).mono ?_
    rintro e w' ⟨rfl, rfl⟩
    go_wp2_with fail
    refine CO.out.mono ?_
    rintro e w' ⟨rfl, rfl⟩
    go_wp2_with fail
    go_ret
    exact ⟨rfl, rfl⟩
end
end Go.Proofs.YthjbnbimfpbccaaGreatDoor
/-
  A sweeper's visit. Condition: as for a sweeper.
-/






set_option linter.unusedVariables false
namespace Go.Proofs.YthjbnbimfpbccaaGreatDoor
open Go.ChangeShapes Go.WideShapes Go.ChangeAt Go.RowKit
section
variable (w0 w : World) (i : Ids) (s : YS) (x : Sm) (pv : Option Addr) (h : Sw w0 w i s x pv)
include h
theorem swvisit1_gen (qs qp : Nat) (page : Int) (hq1 : w.cell? ⟨qs, 0, none⟩ = some (.pointer (some ⟨i.sp, 0, none⟩))) (hq2 : w.cell? ⟨qp, 0, none⟩ = some (.int .i64 page)) (n1 : qs ≠ i.g) (n2 : qp ≠ i.g) (X : World → Prop) (b : Bool)
    (hc : ∀ W, Fr [] w W → Calls Tryz.prog 52 #[.pointer (some ⟨i.gp, 0, none⟩), .int .i64 page] W fun r w' => r = .returned (.bool b) ∧ X w' ∧ Fr [i.g] W w') :
    Calls Tryz.prog 51 #[.pointer (some ⟨qs, 0, none⟩), .pointer (some ⟨qp, 0, none⟩)] w fun r w' => r = .returned (.bool b) ∧ X w' := by
  have c0 := h.S.cell 0
  have c1 := h.S.cell 1
  have c2 := h.S.cell 2
  have c3 := h.S.cell 3
  have c4 := h.S.cell 4
  have c5 := h.S.cell 5
  unfold Sm.cells at c0 c1 c2 c3 c4 c5
  simp only [List.getElem?_toArray, List.getElem?_cons_zero, List.getElem?_cons_succ] at c0 c1 c2 c3 c4 c5
  have l0 := lt_of_cell hq1
  have l1 := lt_of_cell hq2
  have l2 := h.S.lt
  have n3 := h.ne.1.2.1
  have Q1 := Lib.hid fun W (hW : Fr [i.g] w W) => (hW.cell (a := ⟨qs, 0, none⟩) l0 (by simpa using n1)).trans hq1
  have Q2 := Lib.hid fun W (hW : Fr [i.g] w W) => (hW.cell (a := ⟨qp, 0, none⟩) l1 (by simpa using n2)).trans hq2
  have Q3 := Lib.hid fun W (hW : Fr [i.g] w W) => (hW.cell (a := ⟨i.sp, 0, none⟩) l2 (by simpa using n3)).trans c0
  have HC := Lib.hid hc
  clear h hq1 hq2 c0 c1 c2 c3 c4 c5 hc l0 l1 l2
  go_enter Tryz.func51, Tryz.ntmps51
  go_upto_region 1 with (fail)
  refine wp_region_L (fun W => Fr [i.g] w W) [] (by kernel_rfl) ((Fr.refl _ _).drew) (fun hHeld => ?_)
  refine wpAnyL_take (i := 0) (v := ?_) rfl (by kernel_rfl) (fun _ _ _ h => h) (Or.inl ⟨by rfl, ?_⟩) (by assumption) ?_; rotate_left; (focus (intro w hSw; (have cc := Q1.out _ hSw); go_simp; (try with_reducible rfl))); (try (refine wpAnyL_norm (by simp only [Act.put, List.setIfInBounds_toArray, List.set_cons_zero, List.set_cons_succ]; rfl) ?_))
  refine wpAnyL_take (i := 1) (v := ?_) rfl (by kernel_rfl) (fun _ _ _ h => h) (Or.inl ⟨by rfl, ?_⟩) (by assumption) ?_; rotate_left; (focus (intro w hSw; skip; go_simp; (try with_reducible rfl))); (try (refine wpAnyL_norm (by simp only [Act.put, List.setIfInBounds_toArray, List.set_cons_zero, List.set_cons_succ]; rfl) ?_))
  refine wpAnyL_take (i := 2) (v := ?_) rfl (by kernel_rfl) (fun _ _ _ h => h) (Or.inl ⟨by rfl, ?_⟩) (by assumption) ?_; rotate_left; (focus (intro w hSw; skip; go_simp; (try with_reducible rfl))); (try (refine wpAnyL_norm (by simp only [Act.put, List.setIfInBounds_toArray, List.set_cons_zero, List.set_cons_succ]; rfl) ?_))
  refine wpAnyL_take (i := 3) (v := ?_) rfl (by kernel_rfl) (fun _ _ _ h => h) (Or.inl ⟨by rfl, ?_⟩) (by assumption) ?_; rotate_left; (focus (intro w hSw; (have cc := Q3.out _ hSw); go_simp; (try with_reducible rfl))); (try (refine wpAnyL_norm (by simp only [Act.put, List.setIfInBounds_toArray, List.set_cons_zero, List.set_cons_succ]; rfl) ?_))
  refine wpAnyL_take (i := 4) (v := ?_) rfl (by kernel_rfl) (fun _ _ _ h => h) (Or.inl ⟨by rfl, ?_⟩) (by assumption) ?_; rotate_left; (focus (intro w hSw; (have cc := Q2.out _ hSw); go_simp; (try with_reducible rfl))); (try (refine wpAnyL_norm (by simp only [Act.put, List.setIfInBounds_toArray, List.set_cons_zero, List.set_cons_succ]; rfl) ?_))
  refine wpAnyL_ready (rs := [5]) (by kernel_rfl) (by simp) ?_; refine AllReadyL.cons rfl (fun K hK => ?_) AllReadyL.nil
  go_simp
  refine (HC.out _ (Fr.refl [] w).drew).mono ?_
  rintro e w2 ⟨rfl, hx, hf2⟩
  have HX := Lib.hid hx
  refine hK.out _ _ (fun _ => hHeld.trans hf2 (fun k hk => .inl hk)) (fun hHeld' => ?_); have hHeld := hHeld' (by decide); clear hHeld' hK K; (try (refine wpAnyL_norm (by simp only [Act.put, List.setIfInBounds_toArray, List.set_cons_zero, List.set_cons_succ]; rfl) ?_))
  clear hx hf2
  refine wpAnyL_take (i := 6) (v := ?_) rfl (by kernel_rfl) (fun _ _ _ h => h) (Or.inl ⟨by rfl, ?_⟩) (by assumption) ?_; rotate_left; (focus (intro w hSw; skip; go_simp; (try with_reducible rfl))); (try (refine wpAnyL_norm (by simp only [Act.put, List.setIfInBounds_toArray, List.set_cons_zero, List.set_cons_succ]; rfl) ?_))
  refine wpAnyL_done (by kernel_rfl) ?_ _
  go_wp2_with fail
  go_ret
  exact ⟨rfl, HX.out⟩
theorem swvisit_out (page : Int) (h1 : x.st ≠ 2) : Calls Tryz.prog 12 #[.pointer (some ⟨i.sp, 0, none⟩), .int .i64 page] w fun r w' => r = .returned (.bool false) ∧ Fr [] w w' := by
  obtain ⟨b0, hb0⟩ : ∃ b, w.heap.size = b := ⟨_, rfl⟩
  obtain ⟨w1, hw1⟩ : ∃ W, ((w.alloc (.cells #[.pointer (some ⟨i.sp, 0, none⟩)] 25)).alloc (.cells #[.int .i64 page] 3)).alloc (.cells #[.func (.func 51) #[] #[.pointer (some ⟨w.heap.size, 0, none⟩), .pointer (some ⟨w.heap.size + 1, 0, none⟩)]] 32) = W := ⟨_, rfl⟩
  have A1 := Lib.hid (show At w1 b0 25 #[.pointer (some ⟨i.sp, 0, none⟩)] from by (rw [← hw1, ← hb0]; repeat (first | exact At.nw (by first | rfl | simp only [World.size_alloc]) | refine At.old ?_ _)))
  have A2 := Lib.hid (show At w1 (b0 + 1) 3 #[.int .i64 page] from by (rw [← hw1, ← hb0]; repeat (first | exact At.nw (by first | rfl | simp only [World.size_alloc]) | refine At.old ?_ _)))
  have A3 := Lib.hid (show At w1 (b0 + 1 + 1) 32 #[.func (.func 51) #[] #[.pointer (some ⟨b0, 0, none⟩), .pointer (some ⟨b0 + 1, 0, none⟩)]] from by (rw [← hw1, ← hb0]; repeat (first | exact At.nw (by first | rfl | simp only [World.size_alloc]) | refine At.old ?_ _)))
  have F1 := Lib.hid (show Fr [] w w1 from by rw [← hw1]; exact (by repeat (first | exact Fr.refl _ _ | assumption | refine Fr.trans0 ?_ (by assumption) | refine Fr.drewN ?_ _ | refine Fr.alloc ?_ _ | refine Fr.drew ?_)))
  have S1 := Lib.hid (h.fr0 F1.out)
  have hgl := Lib.hid (show i.g < b0 from by rw [← hb0]; exact h.G.lt.2.2)
  have HW1 := Lib.hid hw1
  have HB0 := Lib.hid hb0
  clear h hw1 hb0
  have c0 := S1.out.S.cell 0
  have c4 := S1.out.S.cell 4
  unfold Sm.cells at c0 c4
  simp only [List.getElem?_toArray, List.getElem?_cons_zero, List.getElem?_cons_succ] at c0 c4
  have CI := Lib.hid (swin_no w1 i.sp i.gp 2 x.st c0 c4 (.slice (some ⟨b0 + 1 + 1, 0, none⟩) 1 1) (by omega))
  clear h1 c0 c4
  go_enter Tryz.func12, Tryz.ntmps12
  go_wp2_with fail
  rw [HW1.out, HB0.out]
  refine CI.out.mono ?_
  rintro e w' ⟨rfl, rfl⟩
  go_wp2_with fail
  go_ret
  exact ⟨rfl, F1.out⟩
theorem swvisit_no (page : Int) (h1 : x.st = 2) (hn : (inR page 16 && x.F page.toNat) = false) : Calls Tryz.prog 12 #[.pointer (some ⟨i.sp, 0, none⟩), .int .i64 page] w fun r w' => r = .returned (.bool false) ∧ Fr [] w w' := by
  obtain ⟨b0, hb0⟩ : ∃ b, w.heap.size = b := ⟨_, rfl⟩
  obtain ⟨w1, hw1⟩ : ∃ W, ((w.alloc (.cells #[.pointer (some ⟨i.sp, 0, none⟩)] 25)).alloc (.cells #[.int .i64 page] 3)).alloc (.cells #[.func (.func 51) #[] #[.pointer (some ⟨w.heap.size, 0, none⟩), .pointer (some ⟨w.heap.size + 1, 0, none⟩)]] 32) = W := ⟨_, rfl⟩
  have A1 := Lib.hid (show At w1 b0 25 #[.pointer (some ⟨i.sp, 0, none⟩)] from by (rw [← hw1, ← hb0]; repeat (first | exact At.nw (by first | rfl | simp only [World.size_alloc]) | refine At.old ?_ _)))
  have A2 := Lib.hid (show At w1 (b0 + 1) 3 #[.int .i64 page] from by (rw [← hw1, ← hb0]; repeat (first | exact At.nw (by first | rfl | simp only [World.size_alloc]) | refine At.old ?_ _)))
  have A3 := Lib.hid (show At w1 (b0 + 1 + 1) 32 #[.func (.func 51) #[] #[.pointer (some ⟨b0, 0, none⟩), .pointer (some ⟨b0 + 1, 0, none⟩)]] from by (rw [← hw1, ← hb0]; repeat (first | exact At.nw (by first | rfl | simp only [World.size_alloc]) | refine At.old ?_ _)))
  have F1 := Lib.hid (show Fr [] w w1 from by rw [← hw1]; exact (by repeat (first | exact Fr.refl _ _ | assumption | refine Fr.trans0 ?_ (by assumption) | refine Fr.drewN ?_ _ | refine Fr.alloc ?_ _ | refine Fr.drew ?_)))
  have S1 := Lib.hid (h.fr0 F1.out)
  have hgl := Lib.hid (show i.g < b0 from by rw [← hb0]; exact h.G.lt.2.2)
  have HW1 := Lib.hid hw1
  have HB0 := Lib.hid hb0
  clear h hw1 hb0
  have c0 := S1.out.S.cell 0
  have c4 := S1.out.S.cell 4
  unfold Sm.cells at c0 c4
  simp only [List.getElem?_toArray, List.getElem?_cons_zero, List.getElem?_cons_succ] at c0 c4
  have NG := Lib.hid (show b0 ≠ i.g ∧ b0 + 1 ≠ i.g from by have := hgl.out; omega)
  have CV := Lib.hid (swvisit1_gen w0 w1 i s x pv S1.out b0 (b0 + 1) page (A1.out.cell 0) (A2.out.cell 0) NG.out.1 NG.out.2 (fun W => Fr [] w1 W) false (fun W hW => (gmark_no W _ _ _ _ _ _ (S1.out.fr0 hW).G page hn).mono fun r w' ⟨e1, e2⟩ => ⟨e1, e2 ▸ hW, e2 ▸ Fr.refl _ _⟩))
  have CI := Lib.hid (swin_1 w1 i.sp i.gp 2 x.st c0 c4 (b0 + 1 + 1) 1 51 #[.pointer (some ⟨b0, 0, none⟩), .pointer (some ⟨b0 + 1, 0, none⟩)] (fun W => Fr [] w1 W) false (by omega) (A3.out.cell 0) (fun args w => by kernel_rfl) CV.out)
  clear h1 c0 c4 hn CV
  go_enter Tryz.func12, Tryz.ntmps12
  go_wp2_with fail
  rw [HW1.out, HB0.out]
  refine CI.out.mono ?_
  rintro e w' ⟨rfl, hf⟩
  have F2 := Lib.hid (F1.out.trans0 hf)
  clear hf CI
  go_wp2_with fail
  go_ret
  exact ⟨rfl, F2.out⟩
omit h in
theorem Pn.has {w : World} {i : Ids} {s : YS} {pv : Option Addr} {hs : Int → Bool} (h : Pn w i s pv hs) : ∃ B, B ≤ w.heap.size ∧ Hs B w pv hs := by
  rcases h with ⟨rfl, rfl⟩ | ⟨pp, pq, pg, n, Fp, rfl, h2, rfl, _⟩
  · exact ⟨0, Nat.zero_le _, Hs.nil 0 w⟩
  · exact ⟨_, Nat.le_refl _, Hs.of h2⟩
omit h in
theorem Sw.mk2 {w0 w w' : World} {i : Ids} {s : YS} {x : Sm} {pv : Option Addr} {S : List Nat} (h : Sw w0 w i s x pv) (hS : ∀ k ∈ S, k ∈ i.mut) (f : Fr S w w') (x' : Sm) (h1 : At w' i.sp 109 (x'.cells i pv)) (h2 : Gn w' i.gp i.p i.g 16 x'.F x'.m.ep) (h3 : Ar w' i.ap i.q i.ag i.bg i.cap x'.bs x'.f)
    (hm : x'.m = x.m) (hh : x'.hs = x.hs) (un : x.m.un = decide (x'.st ≠ 0)) (z : x'.st = 0 → cnt x'.F 16 = 0) : Sw w0 w' i s x' pv :=
  ⟨⟨h1, hh ▸ h.paint hS f, h2, h3, hm ▸ h.yard hS f, h.T, h.d, h.o, h.hi, by rw [hm]; exact h.n⟩, by rw [hm]; exact un, z⟩
set_option maxHeartbeats 1000000 in
set_option maxRecDepth 100000 in
theorem swvisit_yes (P : Nat) (hP : P < 16) (hF : x.F P = true) (h1 : x.st = 2) (hv : x.vis < 1000000) : Calls Tryz.prog 12 #[.pointer (some ⟨i.sp, 0, none⟩), .int .i64 P] w fun r w' => r = .returned (.bool true) ∧ Sw w0 w' i s { x with vis := x.vis + 1, F := upd x.F P false, f := pgT x.bs x.hs x.f (tgP x.bs.length x.f P) } pv ∧ Fr [i.g, i.ag, i.sp] w w' := by
  obtain ⟨page, hpg⟩ : ∃ page : Int, (P : Int) = page := ⟨_, rfl⟩
  rw [hpg]
  obtain ⟨b0, hb0⟩ : ∃ b, w.heap.size = b := ⟨_, rfl⟩
  obtain ⟨w1, hw1⟩ : ∃ W, ((w.alloc (.cells #[.pointer (some ⟨i.sp, 0, none⟩)] 25)).alloc (.cells #[.int .i64 page] 3)).alloc (.cells #[.func (.func 51) #[] #[.pointer (some ⟨w.heap.size, 0, none⟩), .pointer (some ⟨w.heap.size + 1, 0, none⟩)]] 32) = W := ⟨_, rfl⟩
  have A1 := Lib.hid (show At w1 b0 25 #[.pointer (some ⟨i.sp, 0, none⟩)] from by (rw [← hw1, ← hb0]; repeat (first | exact At.nw (by first | rfl | simp only [World.size_alloc]) | refine At.old ?_ _)))
  have A2 := Lib.hid (show At w1 (b0 + 1) 3 #[.int .i64 page] from by (rw [← hw1, ← hb0]; repeat (first | exact At.nw (by first | rfl | simp only [World.size_alloc]) | refine At.old ?_ _)))
  have A3 := Lib.hid (show At w1 (b0 + 1 + 1) 32 #[.func (.func 51) #[] #[.pointer (some ⟨b0, 0, none⟩), .pointer (some ⟨b0 + 1, 0, none⟩)]] from by (rw [← hw1, ← hb0]; repeat (first | exact At.nw (by first | rfl | simp only [World.size_alloc]) | refine At.old ?_ _)))
  have F1 := Lib.hid (show Fr [] w w1 from by rw [← hw1]; exact (by repeat (first | exact Fr.refl _ _ | assumption | refine Fr.trans0 ?_ (by assumption) | refine Fr.drewN ?_ _ | refine Fr.alloc ?_ _ | refine Fr.drew ?_)))
  have S1 := Lib.hid (h.fr0 F1.out)
  have hgl := Lib.hid (show i.g < b0 from by rw [← hb0]; exact h.G.lt.2.2)
  have HW1 := Lib.hid hw1
  have HB0 := Lib.hid hb0
  clear h hw1 hb0
  have c0 := S1.out.S.cell 0
  have c4 := S1.out.S.cell 4
  unfold Sm.cells at c0 c4
  simp only [List.getElem?_toArray, List.getElem?_cons_zero, List.getElem?_cons_succ] at c0 c4
  have NG := Lib.hid (show b0 ≠ i.g ∧ b0 + 1 ≠ i.g from by have := hgl.out; omega)
  have CV := Lib.hid (swvisit1_gen w0 w1 i s x pv S1.out b0 (b0 + 1) page (A1.out.cell 0) (A2.out.cell 0) NG.out.1 NG.out.2 (fun W => Gn W i.gp i.p i.g 16 (upd x.F P false) x.m.ep ∧ Fr [i.g] w1 W) true (fun W hW => by
    rw [← hpg]
    exact (gmark_yes W _ _ _ _ _ _ (S1.out.fr0 hW).G P hP hF).mono fun r w' ⟨e1, e2, e3⟩ => ⟨e1, ⟨e2, (hW.more (by simp)).trans e3 (fun k hk => .inl hk)⟩, e3⟩))
  have CI := Lib.hid (swin_1 w1 i.sp i.gp 2 x.st c0 c4 (b0 + 1 + 1) 1 51 #[.pointer (some ⟨b0, 0, none⟩), .pointer (some ⟨b0 + 1, 0, none⟩)] (fun W => Gn W i.gp i.p i.g 16 (upd x.F P false) x.m.ep ∧ Fr [i.g] w1 W) true (by omega) (A3.out.cell 0) (fun args w => by kernel_rfl) CV.out)
  have H1 := Lib.hid h1
  have HPG := Lib.hid hpg
  clear h1 c0 c4 CV hpg hF
  go_enter Tryz.func12, Tryz.ntmps12
  go_wp2_with fail
  rw [HW1.out, HB0.out]
  refine CI.out.mono ?_
  rintro e w2 ⟨rfl, hg2, hf2⟩
  have G2 := Lib.hid hg2
  have F2 := Lib.hid hf2
  clear hg2 hf2 CI
  have NE := Lib.hid S1.out.ne
  have hm1 : ∀ k ∈ [i.g], k ∈ i.mut := by unfold Ids.mut; simp
  have AR2 := Lib.hid (S1.out.arena hm1 F2.out (by have := NE.out; simp; omega) (by have := NE.out; simp; omega))
  have B1 := Lib.hid (A1.out.fr F2.out (by have := NG.out; simp; omega))
  have B2 := Lib.hid (A2.out.fr F2.out (by have := NG.out; simp; omega))
  have SP2 := Lib.hid (S1.out.S.fr F2.out (by have := NE.out; simp; omega))
  have NB := Lib.hid (show b0 ≠ i.ag ∧ b0 + 1 ≠ i.ag from by
    obtain ⟨cs, hag⟩ := Ar.wordsAt AR2.out
    exact ⟨B1.out.diff hag (by decide), B2.out.diff hag (by decide)⟩)
  go_upto_region 3 with (fail)
  have q1 := SP2.out.cell 1
  have q3 := SP2.out.cell 3
  unfold Sm.cells at q1 q3
  simp only [List.getElem?_toArray, List.getElem?_cons_zero, List.getElem?_cons_succ] at q1 q3
  have Q0 := Lib.hid fun W (hW : Fr [] w2 W) => (B1.out.fr hW (by simp)).cell 0
  have Q4 := Lib.hid fun W (hW : Fr [] w2 W) => (B2.out.fr hW (by simp)).cell 0
  have Q1 := Lib.hid fun W (hW : Fr [] w2 W) => (hW.cell (a := ⟨i.sp, 1, none⟩) SP2.out.lt (by simp)).trans q1
  have Q3 := Lib.hid fun W (hW : Fr [] w2 W) => (hW.cell (a := ⟨i.sp, 3, none⟩) SP2.out.lt (by simp)).trans q3
  clear q1 q3
  refine wp_region_L (fun W => Fr [] w2 W) [9] (by kernel_rfl) ((Fr.refl _ _).drew) (fun hHeld => ?_)
  refine wpAnyL_take (i := 0) (v := ?_) rfl (by kernel_rfl) (fun _ _ _ h => h) (Or.inl ⟨by rfl, ?_⟩) (by assumption) ?_; rotate_left; (focus (intro w hSw; (have cc := Q0.out _ hSw); go_simp; (try with_reducible rfl))); (try (refine wpAnyL_norm (by simp only [Act.put, List.setIfInBounds_toArray, List.set_cons_zero, List.set_cons_succ]; rfl) ?_))
  refine wpAnyL_take (i := 1) (v := ?_) rfl (by kernel_rfl) (fun _ _ _ h => h) (Or.inl ⟨by rfl, ?_⟩) (by assumption) ?_; rotate_left; (focus (intro w hSw; skip; go_simp; (try with_reducible rfl))); (try (refine wpAnyL_norm (by simp only [Act.put, List.setIfInBounds_toArray, List.set_cons_zero, List.set_cons_succ]; rfl) ?_))
  refine wpAnyL_take (i := 2) (v := ?_) rfl (by kernel_rfl) (fun _ _ _ h => h) (Or.inl ⟨by rfl, ?_⟩) (by assumption) ?_; rotate_left; (focus (intro w hSw; skip; go_simp; (try with_reducible rfl))); (try (refine wpAnyL_norm (by simp only [Act.put, List.setIfInBounds_toArray, List.set_cons_zero, List.set_cons_succ]; rfl) ?_))
  refine wpAnyL_take (i := 3) (v := ?_) rfl (by kernel_rfl) (fun _ _ _ h => h) (Or.inl ⟨by rfl, ?_⟩) (by assumption) ?_; rotate_left; (focus (intro w hSw; (have cc := Q1.out _ hSw); go_simp; (try with_reducible rfl))); (try (refine wpAnyL_norm (by simp only [Act.put, List.setIfInBounds_toArray, List.set_cons_zero, List.set_cons_succ]; rfl) ?_))
  refine wpAnyL_take (i := 4) (v := ?_) rfl (by kernel_rfl) (fun _ _ _ h => h) (Or.inl ⟨by rfl, ?_⟩) (by assumption) ?_; rotate_left; (focus (intro w hSw; (have cc := Q4.out _ hSw); go_simp; (try with_reducible rfl))); (try (refine wpAnyL_norm (by simp only [Act.put, List.setIfInBounds_toArray, List.set_cons_zero, List.set_cons_succ]; rfl) ?_))
  refine wpAnyL_take (i := 5) (v := ?_) rfl (by kernel_rfl) (fun _ _ _ h => h) (Or.inl ⟨by rfl, ?_⟩) (by assumption) ?_; rotate_left; (focus (intro w hSw; (have cc := Q0.out _ hSw); go_simp; (try with_reducible rfl))); (try (refine wpAnyL_norm (by simp only [Act.put, List.setIfInBounds_toArray, List.set_cons_zero, List.set_cons_succ]; rfl) ?_))
  refine wpAnyL_take (i := 6) (v := ?_) rfl (by kernel_rfl) (fun _ _ _ h => h) (Or.inl ⟨by rfl, ?_⟩) (by assumption) ?_; rotate_left; (focus (intro w hSw; skip; go_simp; (try with_reducible rfl))); (try (refine wpAnyL_norm (by simp only [Act.put, List.setIfInBounds_toArray, List.set_cons_zero, List.set_cons_succ]; rfl) ?_))
  refine wpAnyL_take (i := 7) (v := ?_) rfl (by kernel_rfl) (fun _ _ _ h => h) (Or.inl ⟨by rfl, ?_⟩) (by assumption) ?_; rotate_left; (focus (intro w hSw; skip; go_simp; (try with_reducible rfl))); (try (refine wpAnyL_norm (by simp only [Act.put, List.setIfInBounds_toArray, List.set_cons_zero, List.set_cons_succ]; rfl) ?_))
  refine wpAnyL_take (i := 8) (v := ?_) rfl (by kernel_rfl) (fun _ _ _ h => h) (Or.inl ⟨by rfl, ?_⟩) (by assumption) ?_; rotate_left; (focus (intro w hSw; (have cc := Q3.out _ hSw); go_simp; (try with_reducible rfl))); (try (refine wpAnyL_norm (by simp only [Act.put, List.setIfInBounds_toArray, List.set_cons_zero, List.set_cons_succ]; rfl) ?_))
  have CP := Lib.hid (spage_gen i.ap i.q i.ag i.bg i.cap x.bs x.f (AR2.out.fr0 hHeld) (pv := pv) (hs := x.hs) (fun W hW => Pn.has (S1.out.paint (S := [i.g, i.ag]) (by unfold Ids.mut; simp) (((F2.out.trans0 hHeld).more (T := [i.g, i.ag]) (by simp)).trans hW (by simp)))) page)
  have F3 := Lib.hid (F2.out.trans0 hHeld)
  have G3 := Lib.hid (G2.out.fr hHeld (by simp) (by simp) (by simp))
  have SP3 := Lib.hid (SP2.out.fr hHeld (by simp))
  have C1' := Lib.hid (B1.out.fr hHeld (by simp))
  refine wpAnyL_ready (rs := [9]) (by kernel_rfl) (by simp) ?_; refine AllReadyL.cons rfl (fun K hK => ?_) AllReadyL.nil
  go_simp
  refine CP.out.mono ?_
  rintro e w4 ⟨rfl, h4, hf4⟩
  have A4 := Lib.hid h4
  have F4 := Lib.hid ((F3.out.more (T := [i.g, i.ag]) (by simp)).trans hf4 (by simp))
  have PN := Lib.hid (show i.p ∉ [i.ag] from by
    obtain ⟨⟨cs, k1⟩, _⟩ := Gn.words S1.out.G
    exact S1.out.notin (S := [i.ag]) (by unfold Ids.mut; simp) k1 (by decide) (by decide) (by decide) (by decide))
  have G4 := Lib.hid (G3.out.fr hf4 (by have := NE.out; simp; omega) PN.out (by have := NE.out; simp; omega))
  have SP4 := Lib.hid (SP3.out.fr hf4 (by have := NE.out; simp; omega))
  have D4 := Lib.hid (C1'.out.fr hf4 (by have := NB.out; simp; omega))
  clear h4 hf4 CP hHeld Q0 Q1 Q3 Q4
  refine hK.out _ _ (fun h => (h (by decide)).elim) (fun _ => ?_); clear hK K; (try (refine wpAnyL_norm (by simp only [Act.put, List.setIfInBounds_toArray, List.set_cons_zero, List.set_cons_succ]; rfl) ?_))
  refine wpAnyL_done (by kernel_rfl) ?_ _
  have q0 := D4.out.cell 0
  have q5 := SP4.out.cell 5
  have z5 := SP4.out.froz 5
  unfold Sm.cells at q5
  simp only [List.getElem?_toArray, List.getElem?_cons_zero, List.getElem?_cons_succ] at q0 q5
  have hw5 : IntKind.u64.wrap ((x.vis : Int) + 1) = (x.vis : Int) + 1 := by simp [IntKind.wrap, IntKind.signed, IntKind.bits]; omega
  have SP5 := Lib.hid (SP4.out.set 5 (.int .u64 ((x.vis : Int) + 1)))
  have hm3 : ∀ k ∈ [i.g, i.ag, i.sp], k ∈ i.mut := by unfold Ids.mut; simp
  have f5 : Fr [i.sp] w4 (w4.setCell ⟨i.sp, 5, none⟩ (.int .u64 ((x.vis : Int) + 1))) := (Fr.refl _ _).set (.inl (by simp)) _
  have F5 := Lib.hid ((F4.out.more (T := [i.g, i.ag, i.sp]) (by simp)).trans f5 (by simp))
  have G5 := Lib.hid (G4.out.fr f5 (by have := NE.out; simp; omega) (by
    obtain ⟨⟨cs, k1⟩, _⟩ := Gn.words S1.out.G
    exact S1.out.notin (S := [i.sp]) (by unfold Ids.mut; simp) k1 (by decide) (by decide) (by decide) (by decide)) (by have := NE.out; simp; omega))
  have A5 := Lib.hid (A4.out.fr f5 (by
    obtain ⟨a1, a2, a3, a4, a5, a6, _⟩ := id S1.out.A
    exact S1.out.notin (S := [i.sp]) (by unfold Ids.mut; simp) a6 (by decide) (by decide) (by decide) (by decide)) (by
    obtain ⟨a1, a2, a3, a4, a5, a6, ⟨b1, b2, b3, c, cs', b4, b5, b6, b7⟩, _⟩ := id S1.out.A
    exact S1.out.notin (S := [i.sp]) (by unfold Ids.mut; simp) b5 (by decide) (by decide) (by decide) (by decide)) (by have := NE.out; simp; omega) (by have := NE.out; simp; omega))
  clear f5 SP4 G4 A4 F4
  go_wp2_with fail
  go_ret
  exact ⟨rfl, S1.out.mk2 hm3 F5.out _ SP5.out G5.out A5.out rfl rfl (by rw [S1.out.un]) (fun e => absurd (H1.out.symm.trans e) (by decide)), (F1.out.more (by simp)).trans F5.out (fun k hk => .inl hk)⟩
end
end Go.Proofs.YthjbnbimfpbccaaGreatDoor
/-
  A sweeper's next page. Condition: as for a sweeper.
-/





set_option linter.unusedVariables false
namespace Go.Proofs.YthjbnbimfpbccaaGreatDoor
open Go.ChangeShapes Go.WideShapes Go.ChangeAt Go.RowKit
section
variable (w0 w : World) (i : Ids) (s : YS) (x : Sm) (pv : Option Addr) (h : Sw w0 w i s x pv)
include h
theorem Sw.tab : Tab w := h.T.fr h.Y.f (by simp)
theorem swpage_out (h1 : x.st ≠ 2) : Calls Tryz.prog 14 #[.pointer (some ⟨i.sp, 0, none⟩)] w fun r w' => r = .returned (.tuple #[.int .i64 0, .bool false]) ∧ w = w' := by
  have c0 := h.S.cell 0
  have c4 := h.S.cell 4
  unfold Sm.cells at c0 c4
  simp only [List.getElem?_toArray, List.getElem?_cons_zero, List.getElem?_cons_succ] at c0 c4
  have CI := Lib.hid (swin_no w i.sp i.gp 2 x.st c0 c4 (.slice none 0 0) (by omega))
  clear h h1 c0 c4
  go_enter Tryz.func14, Tryz.ntmps14
  go_wp2_with fail
  refine CI.out.mono ?_
  rintro e w' ⟨rfl, rfl⟩
  go_wp2_with fail
  go_ret2
  exact ⟨rfl, rfl⟩
theorem swpage_no (h1 : x.st = 2) (hn : nxtB x.F 16 = false) : Calls Tryz.prog 14 #[.pointer (some ⟨i.sp, 0, none⟩)] w fun r w' => r = .returned (.tuple #[.int .i64 0, .bool false]) ∧ Fr [] w w' := by
  have c0 := h.S.cell 0
  have c4 := h.S.cell 4
  unfold Sm.cells at c0 c4
  simp only [List.getElem?_toArray, List.getElem?_cons_zero, List.getElem?_cons_succ] at c0 c4
  have CI := Lib.hid (swin_0 w i.sp i.gp 2 x.st c0 c4 0 (by omega))
  have CN := Lib.hid (gnext_any w _ _ _ _ _ _ h.G h.tab)
  rw [hn] at CN
  obtain ⟨N, hN⟩ : ∃ N, nxtP x.F 16 = N := ⟨_, rfl⟩
  rw [hN] at CN
  clear h h1 c4 hN hn
  go_enter Tryz.func14, Tryz.ntmps14
  go_wp2_with fail
  refine CI.out.mono ?_
  rintro e w' ⟨rfl, rfl⟩
  go_wp2_with fail
  refine CN.out.mono ?_
  rintro e w2 ⟨rfl, hf⟩
  have F2 := Lib.hid hf
  clear hf CN
  go_wp2_with fail
  go_ret2
  exact ⟨rfl, F2.out⟩
theorem swpage_yes (P : Nat) (hP : P < 16) (hF : x.F P = true) (hB : nxtB x.F 16 = true) (hN : nxtP x.F 16 = P) (h1 : x.st = 2) (hv : x.vis < 1000000) : Calls Tryz.prog 14 #[.pointer (some ⟨i.sp, 0, none⟩)] w fun r w' => r = .returned (.tuple #[.int .i64 P, .bool true]) ∧ Sw w0 w' i s { x with vis := x.vis + 1, F := upd x.F P false, f := pgT x.bs x.hs x.f (tgP x.bs.length x.f P) } pv ∧ Fr [i.g, i.ag, i.sp] w w' := by
  have c0 := h.S.cell 0
  have c4 := h.S.cell 4
  unfold Sm.cells at c0 c4
  simp only [List.getElem?_toArray, List.getElem?_cons_zero, List.getElem?_cons_succ] at c0 c4
  have CI := Lib.hid (swin_0 w i.sp i.gp 2 x.st c0 c4 0 (by omega))
  have CN := Lib.hid (gnext_any w _ _ _ _ _ _ h.G h.tab)
  rw [hB, hN] at CN
  have CV := Lib.hid fun W (hW : Fr [] w W) => swvisit_yes w0 W i s x pv (h.fr0 hW) P hP hF h1 hv
  obtain ⟨x', hx⟩ : ∃ x' : Sm, { x with vis := x.vis + 1, F := upd x.F P false, f := pgT x.bs x.hs x.f (tgP x.bs.length x.f P) } = x' := ⟨_, rfl⟩
  rw [hx] at CV ⊢
  clear h h1 c4 hN hB hF hx hv
  go_enter Tryz.func14, Tryz.ntmps14
  go_wp2_with fail
  refine CI.out.mono ?_
  rintro e w' ⟨rfl, rfl⟩
  go_wp2_with fail
  refine CN.out.mono ?_
  rintro e w2 ⟨rfl, hf⟩
  have F2 := Lib.hid hf
  clear hf CN
  go_wp2_with fail
  refine (CV.out _ F2.out).mono ?_
  rintro e w3 ⟨rfl, h3, hf3⟩
  have H3 := Lib.hid h3
  have F3 := Lib.hid ((F2.out.more (T := [i.g, i.ag, i.sp]) (by simp)).trans hf3 (fun k hk => .inl hk))
  clear h3 hf3 CV
  go_wp2_with fail
  go_ret2
  exact ⟨rfl, H3.out, F3.out⟩
end
end Go.Proofs.YthjbnbimfpbccaaGreatDoor
/-
  A sweep's end. Condition: as for a sweeper.
-/



set_option linter.unusedVariables false
namespace Go.Proofs.YthjbnbimfpbccaaGreatDoor
open Go.ChangeShapes Go.WideShapes Go.ChangeAt Go.RowKit
section
variable (w0 w : World) (i : Ids) (s : YS) (x : Sm) (pv : Option Addr) (h : Sw w0 w i s x pv)
include h
theorem swend1_any (q : Nat) (hq : w.cell? ⟨q, 0, none⟩ = some (.pointer (some ⟨i.sp, 0, none⟩))) : Calls Tryz.prog 54 #[.pointer (some ⟨q, 0, none⟩)] w fun r w' => r = .returned (.bool (decide (cnt x.F 16 = 0))) ∧ w = w' := by
  have CL := Lib.hid (swleft_any w0 w i s x pv h)
  obtain ⟨N, hN⟩ : ∃ N, cnt x.F 16 = N := ⟨_, rfl⟩
  rw [hN] at CL ⊢
  clear h hN
  by_cases h0 : N = 0
  · subst h0
    go_enter Tryz.func54, Tryz.ntmps54
    go_wp2_with fail
    refine CL.out.mono ?_
    rintro e w' ⟨rfl, rfl⟩
    go_wp2_with fail
    go_ret
    exact ⟨rfl, rfl⟩
  · have h1 : ((N : Int) == 0) = false := by simp; omega
    rw [decide_eq_false h0]
    clear h0
    go_enter Tryz.func54, Tryz.ntmps54
    go_wp2_with fail
    refine CL.out.mono ?_
    rintro e w' ⟨rfl, rfl⟩
    go_wp2_with fail
    go_ret
    exact ⟨rfl, rfl⟩
theorem swend_out (h1 : x.st ≠ 2) : Calls Tryz.prog 13 #[.pointer (some ⟨i.sp, 0, none⟩)] w fun r w' => r = .returned (.tuple #[.slice none 0 0, .bool false]) ∧ Fr [] w w' := by
  obtain ⟨b0, hb0⟩ : ∃ b, w.heap.size = b := ⟨_, rfl⟩
  obtain ⟨w1, hw1⟩ : ∃ W, (w.alloc (.cells #[.pointer (some ⟨i.sp, 0, none⟩)] 25)).alloc (.cells #[.func (.func 54) #[] #[.pointer (some ⟨w.heap.size, 0, none⟩)]] 32) = W := ⟨_, rfl⟩
  have A1 := Lib.hid (show At w1 b0 25 #[.pointer (some ⟨i.sp, 0, none⟩)] from by (rw [← hw1, ← hb0]; repeat (first | exact At.nw (by first | rfl | simp only [World.size_alloc]) | refine At.old ?_ _)))
  have A3 := Lib.hid (show At w1 (b0 + 1) 32 #[.func (.func 54) #[] #[.pointer (some ⟨b0, 0, none⟩)]] from by (rw [← hw1, ← hb0]; repeat (first | exact At.nw (by first | rfl | simp only [World.size_alloc]) | refine At.old ?_ _)))
  have F1 := Lib.hid (show Fr [] w w1 from by rw [← hw1]; exact (by repeat (first | exact Fr.refl _ _ | assumption | refine Fr.trans0 ?_ (by assumption) | refine Fr.drewN ?_ _ | refine Fr.alloc ?_ _ | refine Fr.drew ?_)))
  have S1 := Lib.hid (h.fr0 F1.out)
  have HW1 := Lib.hid hw1
  have HB0 := Lib.hid hb0
  clear h hw1 hb0
  have c0 := S1.out.S.cell 0
  have c4 := S1.out.S.cell 4
  unfold Sm.cells at c0 c4
  simp only [List.getElem?_toArray, List.getElem?_cons_zero, List.getElem?_cons_succ] at c0 c4
  have CI := Lib.hid (swin_no w1 i.sp i.gp 2 x.st c0 c4 (.slice (some ⟨b0 + 1, 0, none⟩) 1 1) (by omega))
  clear h1 c0 c4
  go_enter Tryz.func13, Tryz.ntmps13
  go_wp2_with fail
  rw [HW1.out, HB0.out]
  refine CI.out.mono ?_
  rintro e w' ⟨rfl, rfl⟩
  go_wp2_with fail
  go_ret2
  exact ⟨rfl, F1.out⟩
theorem swend_no (h1 : x.st = 2) (hn : cnt x.F 16 ≠ 0) : Calls Tryz.prog 13 #[.pointer (some ⟨i.sp, 0, none⟩)] w fun r w' => r = .returned (.tuple #[.slice none 0 0, .bool false]) ∧ Fr [] w w' := by
  obtain ⟨b0, hb0⟩ : ∃ b, w.heap.size = b := ⟨_, rfl⟩
  obtain ⟨w1, hw1⟩ : ∃ W, (w.alloc (.cells #[.pointer (some ⟨i.sp, 0, none⟩)] 25)).alloc (.cells #[.func (.func 54) #[] #[.pointer (some ⟨w.heap.size, 0, none⟩)]] 32) = W := ⟨_, rfl⟩
  have A1 := Lib.hid (show At w1 b0 25 #[.pointer (some ⟨i.sp, 0, none⟩)] from by (rw [← hw1, ← hb0]; repeat (first | exact At.nw (by first | rfl | simp only [World.size_alloc]) | refine At.old ?_ _)))
  have A3 := Lib.hid (show At w1 (b0 + 1) 32 #[.func (.func 54) #[] #[.pointer (some ⟨b0, 0, none⟩)]] from by (rw [← hw1, ← hb0]; repeat (first | exact At.nw (by first | rfl | simp only [World.size_alloc]) | refine At.old ?_ _)))
  have F1 := Lib.hid (show Fr [] w w1 from by rw [← hw1]; exact (by repeat (first | exact Fr.refl _ _ | assumption | refine Fr.trans0 ?_ (by assumption) | refine Fr.drewN ?_ _ | refine Fr.alloc ?_ _ | refine Fr.drew ?_)))
  have S1 := Lib.hid (h.fr0 F1.out)
  have HW1 := Lib.hid hw1
  have HB0 := Lib.hid hb0
  clear h hw1 hb0
  have c0 := S1.out.S.cell 0
  have c4 := S1.out.S.cell 4
  unfold Sm.cells at c0 c4
  simp only [List.getElem?_toArray, List.getElem?_cons_zero, List.getElem?_cons_succ] at c0 c4
  have CV := Lib.hid (swend1_any w0 w1 i s x pv S1.out b0 (A1.out.cell 0))
  rw [decide_eq_false hn] at CV
  have CI := Lib.hid (swin_1 w1 i.sp i.gp 2 x.st c0 c4 (b0 + 1) 1 54 #[.pointer (some ⟨b0, 0, none⟩)] (fun W => w1 = W) false (by omega) (A3.out.cell 0) (fun args w => by kernel_rfl) CV.out)
  clear h1 c0 c4 hn CV
  go_enter Tryz.func13, Tryz.ntmps13
  go_wp2_with fail
  rw [HW1.out, HB0.out]
  refine CI.out.mono ?_
  rintro e w' ⟨rfl, rfl⟩
  go_wp2_with fail
  go_ret2
  exact ⟨rfl, F1.out⟩
end
end Go.Proofs.YthjbnbimfpbccaaGreatDoor
/-
  A sweep's end that is one. Condition: as for a sweeper.
-/





set_option linter.unusedVariables false
namespace Go.Proofs.YthjbnbimfpbccaaGreatDoor
open Go.ChangeShapes Go.WideShapes Go.ChangeAt Go.RowKit
set_option maxRecDepth 100000 in
theorem swend_yes (w0 w : World) (i : Ids) (s : YS) (x : Sm) (pv : Option Addr) (h : Sw w0 w i s x pv) (h1 : x.st = 2) (hn : cnt x.F 16 = 0) : Calls Tryz.prog 13 #[.pointer (some ⟨i.sp, 0, none⟩)] w fun r w' => ∃ v s', r = .returned (.tuple #[v, .bool true]) ∧ w'.ownsRow 0 45 2 v x.m.lb.length (rgv x.m.lb) ∧ (∀ g, v.ownBlock = some g → g ∉ s.foot) ∧ Sw w0 w' i s' { x with st := 0, m := mEnd x.m } pv ∧ Fr (i.sp :: s.foot) w w' := by
  obtain ⟨b0, hb0⟩ : ∃ b, w.heap.size = b := ⟨_, rfl⟩
  obtain ⟨w1, hw1⟩ : ∃ W, (w.alloc (.cells #[.pointer (some ⟨i.sp, 0, none⟩)] 25)).alloc (.cells #[.func (.func 54) #[] #[.pointer (some ⟨w.heap.size, 0, none⟩)]] 32) = W := ⟨_, rfl⟩
  have A1 := Lib.hid (show At w1 b0 25 #[.pointer (some ⟨i.sp, 0, none⟩)] from by (rw [← hw1, ← hb0]; repeat (first | exact At.nw (by first | rfl | simp only [World.size_alloc]) | refine At.old ?_ _)))
  have A3 := Lib.hid (show At w1 (b0 + 1) 32 #[.func (.func 54) #[] #[.pointer (some ⟨b0, 0, none⟩)]] from by (rw [← hw1, ← hb0]; repeat (first | exact At.nw (by first | rfl | simp only [World.size_alloc]) | refine At.old ?_ _)))
  have F1 := Lib.hid (show Fr [] w w1 from by rw [← hw1]; exact (by repeat (first | exact Fr.refl _ _ | assumption | refine Fr.trans0 ?_ (by assumption) | refine Fr.drewN ?_ _ | refine Fr.alloc ?_ _ | refine Fr.drew ?_)))
  have S1 := Lib.hid (h.fr0 F1.out)
  have HW1 := Lib.hid hw1
  have HB0 := Lib.hid hb0
  clear h hw1 hb0
  have c0 := S1.out.S.cell 0
  have c4 := S1.out.S.cell 4
  unfold Sm.cells at c0 c4
  simp only [List.getElem?_toArray, List.getElem?_cons_zero, List.getElem?_cons_succ] at c0 c4
  have hun : x.m.un = true := by rw [S1.out.un, h1]; rfl
  have HUN := Lib.hid hun
  have HN := Lib.hid hn
  have hb0 := A1.out.cell 0
  have z4 := S1.out.S.froz 4
  have hne : b0 ≠ i.sp := A1.out.diff S1.out.S (by decide)
  have CV := Lib.hid (swend1_any w0 w1 i s x pv S1.out b0 (A1.out.cell 0))
  rw [decide_eq_true hn] at CV
  have CI := Lib.hid (swin_1 w1 i.sp i.gp 2 x.st c0 c4 (b0 + 1) 1 54 #[.pointer (some ⟨b0, 0, none⟩)] (fun W => w1 = W) true (by omega) (A3.out.cell 0) (fun args w => by kernel_rfl) CV.out)
  clear h1 hn CV hun
  go_enter Tryz.func13, Tryz.ntmps13
  go_wp2_with fail
  rw [HW1.out, HB0.out]
  refine CI.out.mono ?_
  rintro e w' ⟨rfl, rfl⟩
  clear CI
  go_upto_region 4 with (fail)
  have f2 : Fr [i.sp] w1 (w1.setCell ⟨i.sp, 4, none⟩ (.int .i64 0)) := (Fr.refl _ _).set (.inl (by simp)) _
  have hm : ∀ k ∈ [i.sp], k ∈ i.mut := by unfold Ids.mut; simp
  have SP2 := Lib.hid (S1.out.S.set 4 (.int .i64 0))
  have B2 := Lib.hid (A1.out.fr f2 (by simpa using hne))
  have Y2 := Lib.hid (S1.out.yard hm f2)
  have F2 := Lib.hid f2
  obtain ⟨w2, hw2⟩ : ∃ W, w1.setCell ⟨i.sp, 4, none⟩ (.int .i64 0) = W := ⟨_, rfl⟩
  rw [hw2] at SP2 B2 Y2 F2 ⊢
  clear hw2 f2 c0 c4 z4 hb0
  have PN2 := S1.out.paint hm F2.out
  have V2 : Hid (Sv w0 w2 i s { x with st := 0 } pv) := Lib.hid (S1.out.toSv.self 0 x.vis x.hs F2.out SP2.out PN2)
  have nsp : i.sp ∉ s.foot := Y2.out.nfootY (V2.out.off i.sp (by unfold Ids.mut; simp))
  have CE := Lib.hid (end_c Y2.out)
  rw [HUN.out, if_pos rfl] at CE
  have q0 := B2.out.cell 0
  have q2 := SP2.out.cell 2
  unfold Sm.cells at q2
  simp only [List.getElem?_toArray, List.getElem?_cons_zero] at q0 q2
  have HSP := Lib.hid nsp
  clear PN2 nsp hm hne
  go_wp2_with fail
  refine CE.out.mono ?_
  rintro e w3 ⟨v, rfl, hr, hown, s', ht⟩
  have HR := Lib.hid hr
  have HO := Lib.hid hown
  have HT := Lib.hid ht
  clear hr hown ht CE
  go_wp2_with fail
  go_ret2
  have e1 : (mEnd x.m).n = x.m.n ∧ (mEnd x.m).ep = x.m.ep ∧ (mEnd x.m).un = false := by unfold mEnd; rw [HUN.out]; simp
  exact ⟨v, s', rfl, HR.out, HO.out, V2.out.turn HT.out e1.1 e1.2.1 0 (by rw [e1.2.2]; rfl) (fun _ => HN.out) (SP2.out.fr HT.out.f HSP.out), ((F1.out.more (by simp)).trans (F2.out.more (T := i.sp :: s.foot) (fun k hk => .inl (by simp at hk; subst hk; simp))) (fun k hk => .inl hk)).trans HT.out.f (fun k hk => .inl (List.mem_cons_of_mem _ hk))⟩
end Go.Proofs.YthjbnbimfpbccaaGreatDoor
/-
  A sweeper while a region is freed, while a capability is stored. Condition: numbers in their types' ranges.
-/









set_option linter.unusedVariables false
namespace Go.Proofs.YthjbnbimfpbccaaGreatDoor
open Go.ChangeShapes Go.WideShapes Go.ChangeAt Go.RowKit
section
variable (w0 w : World) (i : Ids) (s : YS) (x : Sm) (pv : Option Addr) (h : Sw w0 w i s x pv)
include h
theorem swfree_any (a r : Nat) (ha : a < 4294967296) (hr : r < 4294967296) : Calls Tryz.prog 17 #[.pointer (some ⟨i.y, 0, none⟩), .agg #[.int .u32 a, .int .u32 r]] w fun e w' => e = .returned (.bool (frB x.m a r)) ∧ ∃ s', Sw w0 w' i s' { x with m := mFree x.m a r } pv ∧ Fr s.foot w w' := by
  refine (free_c h.Y a r ha hr).mono ?_
  rintro e w' ⟨rfl, s', ht⟩
  have e1 : (mFree x.m a r).n = x.m.n ∧ (mFree x.m a r).ep = x.m.ep ∧ (mFree x.m a r).un = x.m.un := by unfold mFree; split <;> exact ⟨rfl, rfl, rfl⟩
  exact ⟨rfl, s', h.toSv.turn ht e1.1 e1.2.1 x.st (e1.2.2.trans h.un) h.z (h.S.fr ht.f (h.Y.nfootY (h.off i.sp (by unfold Ids.mut; simp)))), ht.f⟩
theorem swstorec_any (a : Nat) (ha : a < 4294967296) (c : Cp) (hc : c.Ok) : Calls Tryz.prog 18 #[.pointer (some ⟨i.ap, 0, none⟩), .int .u32 a, .agg c.cells] w fun e w' => e = .returned (.bool (whB x.bs.length a)) ∧ Sw w0 w' i s { x with bs := scL x.bs a c, f := scF x.bs x.f a c } pv ∧ Fr [i.ag, i.bg] w w' := by
  refine (astorec_b w _ _ _ _ _ _ _ h.A a ha c hc).mono ?_
  rintro e w' ⟨rfl, h2, hf⟩
  have hm : ∀ k ∈ [i.ag, i.bg], k ∈ i.mut := by unfold Ids.mut; simp
  have ne := h.ne
  exact ⟨rfl, h.mk2 hm hf _ (h.S.fr hf (by simp; omega)) (h.gens hm hf (by simp; omega) (by simp; omega)) h2 rfl rfl h.un h.z, hf⟩
end
end Go.Proofs.YthjbnbimfpbccaaGreatDoor
