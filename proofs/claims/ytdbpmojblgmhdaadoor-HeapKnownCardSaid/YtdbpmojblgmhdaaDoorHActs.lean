/-
  Malloc of a heap, over its two lists. Condition: the table of math/bits is as the library lays it; sizes below 2^32.
-/



import Derived.Test.YtdbpmojblgmhdaaDoorHModel
set_option linter.unusedVariables false
namespace Go.Proofs.YtdbpmojblgmhdaaDoor
open Go.ChangeShapes Go.WideShapes Go.ChangeAt Go.RowKit
section
variable {w w' : World} {I : HId} {own : Rg} {A L R : List Rg} {c : Nat}
theorem ne_bk (nd : I.foot.Nodup) (hc : c < 5) : (I.bk c ≠ I.hp ∧ I.bk c ≠ I.pp ∧ I.bk c ≠ I.pt ∧ I.bk c ≠ I.pg ∧ I.bk c ≠ I.lb ∧ I.bk c ≠ I.rb) ∧ ∀ d, d < 5 → d ≠ c → I.bk d ≠ I.bk c := by
  simp only [HId.foot, List.nodup_cons, List.mem_cons, List.not_mem_nil, or_false, not_or] at nd
  constructor
  · rcases five hc with rfl | rfl | rfl | rfl | rfl <;> refine ⟨fun e => ?_, fun e => ?_, fun e => ?_, fun e => ?_, fun e => ?_, fun e => ?_⟩ <;> simp_all
  · intro d hd hne
    rcases five hc with rfl | rfl | rfl | rfl | rfl <;> rcases five hd with rfl | rfl | rfl | rfl | rfl <;> first | exact absurd rfl hne | (intro e; simp_all)
theorem ne_lb (nd : I.foot.Nodup) : I.lb ≠ I.hp ∧ I.lb ≠ I.pp ∧ I.lb ≠ I.pt ∧ I.lb ≠ I.pg ∧ I.lb ≠ I.rb := by
  simp only [HId.foot, List.nodup_cons, List.mem_cons, List.not_mem_nil, or_false, not_or] at nd
  refine ⟨fun e => ?_, fun e => ?_, fun e => ?_, fun e => ?_, fun e => ?_⟩ <;> simp_all
theorem ne_pg (nd : I.foot.Nodup) : I.pg ≠ I.hp ∧ I.pg ≠ I.pp ∧ I.pg ≠ I.pt ∧ I.pg ≠ I.lb ∧ I.pg ≠ I.rb := by
  simp only [HId.foot, List.nodup_cons, List.mem_cons, List.not_mem_nil, or_false, not_or] at nd
  refine ⟨fun e => ?_, fun e => ?_, fun e => ?_, fun e => ?_, fun e => ?_⟩ <;> simp_all
theorem Hp.ne_at (h : Hp w I own L R) {r x : Rg} (hg : Good own (r :: (L ++ R))) (hx : x ∈ L ++ R) (hr : r ∉ L ++ R) : x.1 ≠ r.1 := by
  have h1 := hg.apart r (by simp) x (List.mem_cons_of_mem _ hx) (fun e => hr (e ▸ hx))
  have h2 := hg.pos (x := r) (by simp)
  have h3 := hg.pos (x := x) (List.mem_cons_of_mem _ hx)
  omega
theorem Hp.grow (h : Hp w I own L R) {r : Rg} (hg : Good own (r :: (L ++ R))) (hr : r ∉ L ++ R) {w4 : World} {S4 S2 : List Nat} (hS2 : ∀ k ∈ S2, k = I.lb ∨ w.heap.size ≤ k) (f4 : Fr S4 w w4) (hS4 : ∀ k ∈ S4, k = I.pg ∨ ∃ c, c < 5 ∧ k = I.bk c) (f2 : Fr S2 w4 w')
    (hp4 : Pl w4 I.pp I.pt I.pg 1024 (frP own (r :: (L ++ R)))) (hb4 : ∀ c, c < 5 → Book w4 (I.bk c) (per c) (fcl (r :: (L ++ R)) c) (tcl (r :: (L ++ R)) c)) (hl : Ms w' I.lb (r :: L)) : Hp w' I own (insS L r) R ∧ Fr I.foot w w' := by
  have nd := h.h.nd
  have hlt := h.lt
  have n2 := ne_lb nd
  have n3 := ne_pg nd
  have k2 : ∀ k ∈ I.foot, k ≠ I.lb → k ∉ S2 := fun k hk hne hk2 => by
    rcases hS2 k hk2 with e | e
    · exact hne e
    · have := hlt k hk; omega
  have k4 : ∀ k, (k ≠ I.pg ∧ ∀ c, c < 5 → k ≠ I.bk c) → k ∉ S4 := fun k hk hk4 => by
    rcases hS4 k hk4 with e | ⟨c, hc, e⟩
    · exact hk.1 e
    · exact hk.2 c hc e
  have e1 : ∀ x, x ∈ r :: (L ++ R) ↔ x ∈ insS L r ++ R := fun x => by
    rw [List.mem_cons, List.mem_append, List.mem_append, insS_mem]
    exact ⟨fun h => by rcases h with h | h | h <;> simp [h], fun h => by rcases h with (h | h) | h <;> simp [h]⟩
  have hB : Hb w' I own (r :: (L ++ R)) :=
    ⟨(h.h.c.fr f4 (k4 _ ⟨n3.1.symm, fun c hc e => (ne_bk nd hc).1.1 e.symm⟩)).fr f2 (k2 _ (by simp [HId.foot]) n2.1.symm),
     hp4.fr f2 (k2 _ (by simp [HId.foot]) n2.2.1.symm) (k2 _ (by simp [HId.foot]) n2.2.2.1.symm) (k2 _ (by simp [HId.foot]) n2.2.2.2.1.symm),
     fun c hc => (hb4 c hc).fr f2 (k2 _ (I.bk_mem hc) (ne_bk nd hc).1.2.2.2.2.1), nd, hg⟩
  refine ⟨⟨hB.congr e1, hl.perm (insS_perm r L).symm, ?_, insS_sorted r L h.sl fun x hx => h.ne_at hg (List.mem_append.2 (.inl hx)) hr, h.sr, ?_⟩, ?_⟩
  · exact (h.r.fr f4 (k4 _ ⟨n3.2.2.2.2.symm, fun c hc e => (ne_bk nd hc).1.2.2.2.2.2 e.symm⟩)).fr f2 (k2 _ (by simp [HId.foot]) n2.2.2.2.2.symm)
  · intro x hx
    rcases (insS_mem L r x).1 hx with rfl | hx
    · exact fun hx2 => hr (List.mem_append.2 (.inr hx2))
    · exact h.dj x hx
  · refine (f4.more (T := I.foot) (fun k hk => ?_)).trans f2 (fun k hk => ?_)
    · rcases hS4 k hk with rfl | ⟨c, hc, rfl⟩
      · simp [HId.foot]
      · exact .inl (I.bk_mem hc)
    · rcases hS2 k hk with rfl | e
      · exact .inl (by simp [HId.foot])
      · exact .inr e
theorem Hp.room (h : Hp w I own L R) : L.length < maxLen ∧ R.length < maxLen ∧ L.length ≤ 1000000 ∧ R.length ≤ 1000000 ∧ (∀ x ∈ L ++ R, Ok32 x) := by
  have hb : ∀ x ∈ L ++ R, 0 ≤ x.1 ∧ x.1 < 262144 ∧ x.2 ≤ 262144 := fun x hx => by
    have := h.h.g.inside x hx
    have := h.h.g.o4
    have := h.h.g.pos hx
    omega
  have h1 := srt_len L 0 h.sl fun x hx => ⟨by omega, (hb x (by simp [hx])).2.1⟩
  have h2 := srt_len R 0 h.sr fun x hx => ⟨by omega, (hb x (by simp [hx])).2.1⟩
  have h3 : L.length ≤ 262144 := by rcases h1 with h | rfl; · omega
                                    · simp
  have h4 : R.length ≤ 262144 := by rcases h2 with h | rfl; · omega
                                    · simp
  unfold maxLen
  exact ⟨by omega, by omega, by omega, by omega, fun x hx => by have := hb x hx; unfold Ok32; omega⟩
end
def rv (o : Option Rg) : Value := .agg #[.int .u32 ((o.getD (0, 0)).1 : Nat), .int .u32 ((o.getD (0, 0)).2 : Nat)]
def insO (L : List Rg) : Option Rg → List Rg
  | none => L
  | some r => insS L r
section
variable {w : World} {I : HId} {own : Rg} {L R : List Rg}
theorem malloc_any (h : Hp w I own L R) (hT : Tab32 w) {size : Nat} (hs : size < 4294967296) :
    Calls Tryd.prog 14 #[.pointer (some ⟨I.hp, 0, none⟩), .int .u32 size] w fun e w' => e = .returned (.tuple #[rv (malP own (L ++ R) size).1, .int .i64 (malP own (L ++ R) size).2]) ∧ Hp w' I own (insO L (malP own (L ++ R) size).1) R ∧ Fr I.foot w w' := by
  have hroom := h.room
  have G := h.h.g
  have nd := h.h.nd
  have hto : own.2 ≤ 262144 := by have := G.o4; omega
  have hlt := h.lt
  have n2 := ne_lb nd
  have n3 := ne_pg nd
  rcases pad_cases size own.2 hto with hv | ⟨pd, al, hv, p1, p2, p3, p4, p5, pc⟩
  · have hm : malP own (L ++ R) size = (none, 6) := by unfold malP; rw [hv]; rfl
    rw [hm]
    exact (hmalloc_err h.h hs hv).mono fun _ _ ⟨he, hf⟩ => ⟨he, h.fr0 hf, hf.more (by simp)⟩
  have hm : malP own (L ++ R) size = match plcP own (L ++ R) pd al with | none => (none, 7) | some at_ => (some (at_, pd), 0) := by
    unfold malP; rw [hv]
    show (if (0 : Int) = 0 then _ else _) = _
    rw [if_pos rfl]
    simp only [Int.toNat_natCast]
    rfl
  rcases pc with ⟨c, hc, q1, q2, q3, q4, q5⟩ | ⟨q1, k, b, q2, q3, q4, q5, q6⟩
  · have hpl : plcP own (L ++ R) pd al = slotP own (L ++ R) c := by unfold plcP; rw [if_pos q5, q3]; rfl
    rw [hpl] at hm
    have nb := ne_bk nd hc
    have hbk := hlt _ (I.bk_mem hc)
    have hbpg := hlt I.pg (by simp [HId.foot])
    subst q1
    have hS1 : ∀ k ∈ [I.bk c], k < w.heap.size ∧ k ≠ I.hp ∧ k ≠ I.lb := fun k hk => by simp at hk; subst hk; exact ⟨hbk, nb.1.1, nb.1.2.2.2.2.1⟩
    have hS3 : ∀ k ∈ [I.pg, I.bk c], k < w.heap.size ∧ k ≠ I.hp ∧ k ≠ I.lb := fun k hk => by
      simp at hk
      rcases hk with rfl | rfl
      · exact ⟨hbpg, n3.1, n3.2.2.2.1⟩
      · exact ⟨hbk, nb.1.1, nb.1.2.2.2.2.1⟩
    rcases slotP_cases G hc with ⟨n, s, g1, g2, g3, g4, g5, g6, g7⟩ | ⟨g1, a, g2, g3, g4, _, g5⟩ | ⟨g1, g2, _, g3⟩
    · rw [g7] at hm
      rw [hm]
      have hno := ((fcl_iff _ c n s).1 g4).2.2
      have hfit : ∃ a : Nat, padR (sz c : Int) = some ((sz c : Int), (a : Int)) ∧ (256 * n + s * sz c) % a = 0 := ⟨al, p5, by rw [q2]; exact slot_div hc⟩
      have hg := G.add_slot hc g3 g2 hno hfit
      have hok : Ok32 (256 * n + s * sz c, sz c) := by
        have h1 := hg.inside (256 * n + s * sz c, sz c) (by simp)
        have h2 := G.o4
        dsimp only at h1
        unfold Ok32; dsimp only; omega
      refine (hmalloc_small h.h h.l hs hv q5 q3 q4 hok (fun hx => hno (by simp [hx])) hroom.1 hS1
        (P := fun W => Book W (I.bk c) (per c) (upp (fcl (L ++ R) c) n (upd (fcl (L ++ R) c n) s false)) (tcl (L ++ R) c) ∧ Fr [I.bk c] w W)
        (fun W hW => (hslot_old (h.h.fr0 hW) (hT.fr hW (by simp)) hc g1 g2 g4 g5 g6).mono fun _ _ ⟨he, hb, hf⟩ => ⟨he, ⟨hb, (hW.more (T := [I.bk c]) (by simp)).trans hf (fun k hk => .inl hk)⟩, hf⟩)).mono ?_
      rintro e w' ⟨rfl, w4, S2, ⟨hb4, hf4⟩, hl', hf2, hS2⟩
      refine ⟨rfl, h.grow hg hno hS2 hf4 (fun k hk => .inr ⟨c, hc, by simpa using hk⟩) hf2 ?_ (fun d hd => ?_) hl'⟩
      · rw [frP_add_slot G hc g3 g2]
        exact h.h.p.fr hf4 (by simp; exact nb.1.2.1.symm) (by simp; exact nb.1.2.2.1.symm) (by simp; exact nb.1.2.2.2.1.symm)
      · by_cases e : d = c
        · subst e
          rw [fcl_add_slot hd g3 g2, tcl_add_slot hd g3 g2]
          exact hb4
        · obtain ⟨t1, t2⟩ := fcl_other (A := L ++ R) (r := (256 * n + s * sz c, sz c)) hc hd e rfl
          rw [t1, t2]
          exact (h.h.b d hd).fr hf4 (by simp; exact nb.2 d hd e)
    · rw [g5] at hm
      rw [hm]
      have htou := ((frP_iff _ _ _).1 g3).2
      have hno : (256 * a, sz c) ∉ L ++ R := fun hx => by
        have h1 := sz_bd hc
        have : tou (L ++ R) a = true := (tou_iff _ _).2 ⟨_, hx, by dsimp only; omega⟩
        rw [htou] at this; cases this
      have hfit : ∃ x : Nat, padR (sz c : Int) = some ((sz c : Int), (x : Int)) ∧ (256 * a) % x = 0 := ⟨al, p5, by rw [q2]; have := slot_div (p := a) (s := 0) hc; simpa using this⟩
      have hg := G.add_page hc g3 hfit
      have hok : Ok32 (256 * a, sz c) := by
        have h1 := hg.inside (256 * a, sz c) (by simp)
        have h2 := G.o4
        dsimp only at h1
        unfold Ok32; dsimp only; omega
      refine (hmalloc_small h.h h.l hs hv q5 q3 q4 hok (fun hx => hno (by simp [hx])) hroom.1 hS3
        (P := fun W => (Book W (I.bk c) (per c) (upp (upp (fcl (L ++ R) c) a (ful (per c))) a (upd (upp (fcl (L ++ R) c) a (ful (per c)) a) 0 false)) (upd (tcl (L ++ R) c) a true) ∧ Pl W I.pp I.pt I.pg 1024 (clr (frP own (L ++ R)) a (a + 1))) ∧ Fr [I.pg, I.bk c] w W)
        (fun W hW => (hslot_new (h.h.fr0 hW) (hT.fr hW (by simp)) hc g1 g4 g2 htou).mono fun _ _ ⟨he, hb, hp, hf⟩ => ⟨he, ⟨⟨hb, hp⟩, (hW.more (T := [I.pg, I.bk c]) (by simp)).trans hf (fun k hk => .inl hk)⟩, hf⟩)).mono ?_
      rintro e w' ⟨rfl, w4, S2, ⟨⟨hb4, hp4⟩, hf4⟩, hl', hf2, hS2⟩
      refine ⟨rfl, h.grow hg hno hS2 hf4 (fun k hk => ?_) hf2 ?_ (fun d hd => ?_) hl'⟩
      · simp at hk
        rcases hk with rfl | rfl
        · exact .inl rfl
        · exact .inr ⟨c, hc, rfl⟩
      · rw [frP_add_page hc]; exact hp4
      · by_cases e : d = c
        · subst e
          rw [fcl_add_page G hd htou, tcl_add_page]
          exact hb4
        · obtain ⟨t1, t2⟩ := fcl_other (A := L ++ R) (r := (256 * a, sz c)) hc hd e rfl
          rw [t1, t2]
          exact (h.h.b d hd).fr hf4 (by simp; exact ⟨(ne_bk nd hd).1.2.2.2.1, nb.2 d hd e⟩)
    · rw [g3] at hm
      rw [hm]
      refine (hmalloc_small_no h.h hs hv q5 q3 q4 (fun W hW => hslot_no (h.h.fr0 hW) hc g1 g2)).mono ?_
      rintro e w' ⟨rfl, hf⟩
      exact ⟨rfl, h.fr0 hf, hf.more (by simp)⟩
  · have hpl : plcP own (L ++ R) pd al = runP own (L ++ R) k b := by unfold plcP; rw [if_neg (by omega), show pd / 256 = k by omega, show al / 256 = b by omega]
    rw [hpl] at hm
    rcases runP_cases (own := own) (A := L ++ R) (k := k) (b := b) (by omega) q5 with ⟨a, g1, g2, g3, g4, _, g6⟩ | ⟨g1, _, g3⟩
    · rw [g6] at hm
      rw [hm]
      have hno : (256 * a, pd) ∉ L ++ R := fun hx => by
        have h1 := ((frP_iff _ _ _).1 (g4 0 (by omega))).2
        have : tou (L ++ R) (a + 0) = true := (tou_iff _ _).2 ⟨_, hx, by dsimp only; omega⟩
        rw [h1] at this; cases this
      have hfit : ∃ x : Nat, padR ((256 * k : Nat) : Int) = some (((256 * k : Nat) : Int), (x : Int)) ∧ (256 * a) % x = 0 := ⟨al, by rw [← q2]; exact p5, by rw [q3, Nat.mul_mod_mul_left, g2]⟩
      have hg := G.add_run q4 g4 hfit
      have hok : Ok32 (256 * a, pd) := by unfold Ok32; dsimp only; omega
      refine (hmalloc_large h.h h.l hs hv q1 (by omega) q2 q3 q6 g1 g3 rfl hok (fun hx => hno (by simp [hx])) hroom.1).mono ?_
      rintro e w' ⟨rfl, w4, S2, ⟨hp4, hf4⟩, hl', hf2, hS2⟩
      rw [q2] at hno hl' ⊢
      refine ⟨rfl, h.grow hg hno hS2 hf4 (fun k hk => .inl (by simpa using hk)) hf2 ?_ (fun d hd => ?_) hl'⟩
      · rw [frP_add_run (by omega)]; exact hp4
      · obtain ⟨t1, t2⟩ := cls_add_run (A := L ++ R) (a := a) q4 hd
        rw [t1, t2]
        exact (h.h.b d hd).fr hf4 (by simp; exact (ne_bk nd hd).1.2.2.2.1)
    · rw [g3] at hm
      rw [hm]
      refine (hmalloc_large_no h.h hs hv q1 (by omega) q2 q3 q6 g1).mono ?_
      rintro e w' ⟨rfl, hf⟩
      exact ⟨rfl, h.fr0 hf, hf.more (by simp)⟩
end
end Go.Proofs.YtdbpmojblgmhdaaDoor
