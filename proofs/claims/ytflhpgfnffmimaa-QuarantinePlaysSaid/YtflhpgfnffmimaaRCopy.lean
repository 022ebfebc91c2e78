/-
  A yard's copy beside the yard: what changes the one leaves the other. Condition: none.
-/



import Derived.Test.YtflhpgfnffmimaaRMod
set_option linter.unusedVariables false
namespace Go.Proofs.Ytflhpgfnffmimaa
open Go.ChangeShapes Go.WideShapes Go.ChangeAt Go.RowKit
/-- A yard's blocks. -/
def YS.all (s : YS) : List Nat := s.y :: s.a :: s.b :: s.c :: s.a' :: s.b' :: s.c' :: (s.wv.ownBlock.toList ++ s.bv.ownBlock.toList)
def Far (F : List Nat) (s : YS) : Prop := ∀ k ∈ s.all, k ∉ F
section
variable {w0 w w' : World} {y q n : Nat} {m m' : MS} {s s' s2 : YS} {F : List Nat} {wa la : Option Addr} {wc lc : Nat}
theorem all_lt (h : Yd w s) : ∀ k ∈ s.all, k < w.heap.size := fun k hk => by
  unfold YS.all at hk
  simp only [List.mem_cons, List.mem_append, Option.mem_toList] at hk
  have l1 := h.wt.lt
  have l2 := h.bt.lt
  rcases hk with rfl | rfl | rfl | rfl | rfl | rfl | rfl | hk | hk
  · exact h.at_.lt
  · exact l1.1
  · exact l1.2.1
  · exact l1.2.2
  · exact l2.1
  · exact l2.2.1
  · exact l2.2.2
  · obtain ⟨_, _, ha⟩ := own_atR h.wt.own k hk; exact ha.lt
  · obtain ⟨_, _, ha⟩ := own_atR h.bt.own k hk; exact ha.lt
theorem Yw.far2 (h : Yw w0 w y m s) (hF : Far F s) (h0 : ∀ k ∈ F, w0.heap.size ≤ k) (f : Fr F w w') : Yw w0 w' y m s := by
  have key := fun k hk => hF k hk
  unfold YS.all at key
  simp only [List.mem_cons, List.mem_append, Option.mem_toList] at key
  exact ⟨⟨h.yd.at_.fr f (key _ (by simp)), h.yd.wt.fr f (key _ (by simp)) (key _ (by simp)) (key _ (by simp)) (fun g hg => key g (by simp [hg])), h.yd.bt.fr f (key _ (by simp)) (key _ (by simp)) (key _ (by simp)) (fun g hg => key g (by simp [hg])), h.yd.ne, h.yd.apart, h.yd.up, h.yd.few⟩, h.f.trans f (fun k hk => .inr (h0 k hk)), h.y0, h.c0, h.own, h.yy, h.ms⟩
theorem Far.turn (hF : Far s.foot s2) (h2 : Yd w s2) (t : Turn w0 w y s m' w' s') : Far s'.foot s2 := fun k hk hm => by
  have := all_lt h2 k hk
  rcases t.foot k hm with h | h
  · exact hF k hk h
  · omega
theorem foot_new (h : Yw w0 w y m s) : ∀ k ∈ s.foot, w0.heap.size ≤ k := fun k hk => by
  unfold YS.foot at hk
  rcases List.mem_cons.1 hk with e | hk
  · subst e; exact h.y0
  · rcases List.mem_cons.1 hk with e | hk
    · subst e; exact h.c0
    · cases hv : s.wv.ownBlock with
      | none => rw [hv] at hk; simp at hk
      | some g => rw [hv] at hk; simp at hk; subst hk; exact h.own _ hv
/-- What the reference's lists are apart from, told of another yard. -/
theorem Rf.move {w7 : World} {s5 : YS} (h0 : Rf w s q n m wa wc la lc) (h7 : Rf w7 s5 q n m wa wc la lc) (hk : ∀ k ∈ s2.foot, w.heap.size ≤ k) : Rf w7 s2 q n m wa wc la lc := by
  have key : ∀ g, g < w.heap.size → g ∉ s2.foot := fun g h1 h2 => by have := hk g h2; omega
  refine ⟨h7.at_, key q h0.at_.lt, h7.ow, h7.ol, fun g hg => key g ?_, fun g hg => key g ?_⟩
  · obtain ⟨_, _, ha⟩ := own_atR h0.ow g hg; exact ha.lt
  · obtain ⟨_, _, ha⟩ := own_atR h0.ol g hg; exact ha.lt
theorem copy_far (h : Yw w0 w y m s) : Calls Try.prog 25 #[.pointer (some ⟨y, 0, none⟩)] w fun e w' => ∃ y2 s2, e = .returned (.pointer (some ⟨y2, 0, none⟩)) ∧ Yw w0 w' y2 m s2 ∧ (∀ k ∈ s2.foot, w.heap.size ≤ k) ∧ Far s.foot s2 ∧ Fr [] w w' := by
  have hlt := foot_ltR h
  obtain ⟨hyd, hf, hy0, hc0, hown, rfl, rfl⟩ := id h
  refine (qcopy_any hyd).mono ?_
  rintro e w' ⟨y2, v1, p1, q1, g1, v2, p2, q2, g2, rfl, h1, ⟨h2, h3, h4, h5, h6⟩, h7⟩
  refine ⟨y2, _, rfl, ⟨h1, hf.trans0 h7, Nat.le_trans hf.size h2, Nat.le_trans hf.size h3, fun g hg => Nat.le_trans hf.size (h5 g hg), rfl, rfl⟩, fun k hk => ?_, fun k hk hm => ?_, h7⟩
  · unfold YS.foot at hk
    dsimp only at hk
    rcases List.mem_cons.1 hk with rfl | hk
    · exact h2
    · rcases List.mem_cons.1 hk with rfl | hk
      · exact h3
      · cases hv : v1.ownBlock with
        | none => rw [hv] at hk; simp at hk
        | some g => rw [hv] at hk; simp at hk; subst hk; exact h5 _ hv
  · have hk0 := hlt k hm
    have hd := hyd.fr0 h7
    obtain ⟨-, -, ⟨_, hcc⟩⟩ := Pt.blocks hd.wt.pt
    have old : ∀ t cs, At w' k t cs → t = 68 ∨ t = 32 ∨ t = 30 := fun t cs ha => by
      unfold YS.foot at hm
      rcases List.mem_cons.1 hm with e | hm
      · subst e; exact .inl (ha.inj hd.at_).1
      · rcases List.mem_cons.1 hm with e | hm
        · subst e; exact .inr (.inl (ha.inj hcc).1)
        · cases hv : s.wv.ownBlock with
          | none => rw [hv] at hm; simp at hm
          | some g =>
            rw [hv] at hm; simp at hm; subst hm
            rcases hd.wt.own.2 with ⟨e, _⟩ | ⟨g', cap, cur, e, _, hgg, _⟩
            · rw [e] at hv; simp [Value.ownBlock] at hv
            · rw [e] at hv; simp [Value.ownBlock] at hv; subst hv; exact .inr (.inr (ha.inj hgg).1)
    obtain ⟨⟨_, b1⟩, ⟨_, b2⟩, -⟩ := Pt.blocks h1.wt.pt
    obtain ⟨⟨_, b3⟩, ⟨_, b4⟩, -⟩ := Pt.blocks h1.bt.pt
    dsimp only at b1 b2 b3 b4
    unfold YS.all at hk
    simp only [List.mem_cons, List.mem_append, Option.mem_toList] at hk
    rcases hk with rfl | rfl | rfl | rfl | rfl | rfl | rfl | hk | hk
    · omega
    · exact absurd (old _ _ b1) (by decide)
    · exact absurd (old _ _ b2) (by decide)
    · omega
    · exact absurd (old _ _ b3) (by decide)
    · exact absurd (old _ _ b4) (by decide)
    · omega
    · have := h5 k hk; omega
    · have := h6 k hk; omega
end
end Go.Proofs.Ytflhpgfnffmimaa
