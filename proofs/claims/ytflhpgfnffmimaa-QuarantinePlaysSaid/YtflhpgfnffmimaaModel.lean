/-
  A yard by what it holds alone: bytes, sweeps, two lists; every function of a yard told in these words. Condition: numbers in their types' ranges; a million sweeps at most.
-/



import Derived.Test.YtflhpgfnffmimaaYCopy
set_option linter.unusedVariables false
namespace Go.Proofs.Ytflhpgfnffmimaa
open Go.ChangeShapes Go.WideShapes Go.ChangeAt Go.RowKit
structure MS where
  n : Nat
  ep : Nat
  un : Bool
  lw : List (Nat × Nat)
  lb : List (Nat × Nat)
def YS.ms (s : YS) : MS := ⟨s.n, s.ep, s.un, s.lw, s.lb⟩
def pl (l : List (Nat × Nat)) (a : Nat) : Nat := (l.takeWhile fun r => decide (r.1 < a)).length
theorem pl_place : ∀ (l : List (Nat × Nat)) (a k : Nat), Place l a k → k = pl l a
  | [], a, k, h => by have := h.1; simp at this; subst this; rfl
  | r :: l, a, 0, h => by
    have := h.2.2 0 r (by omega) rfl
    unfold pl
    rw [List.takeWhile_cons_of_neg (by simpa using this)]
    rfl
  | r :: l, a, k + 1, h => by
    have h0 := h.2.1 0 r (by omega) rfl
    have ih := pl_place l a k ⟨by have := h.1; simp at this; exact this, fun j s hj hs => h.2.1 (j + 1) s (by omega) hs, fun j s hj hs => h.2.2 (j + 1) s (by omega) hs⟩
    unfold pl at ih ⊢
    rw [List.takeWhile_cons_of_pos (by simpa using h0), List.length_cons, ← ih]
def put (l : List (Nat × Nat)) (r : Nat × Nat) : List (Nat × Nat) := insL l (pl l r.1) r
def frB (m : MS) (a s : Nat) : Bool := decide (a % 16 = 0 ∧ s % 16 = 0 ∧ 0 < s ∧ a + s ≤ 16 * m.n) && !(tch (cov m.lw) (a / 16) (s / 16) || tch (cov m.lb) (a / 16) (s / 16))
def mFree (m : MS) (a s : Nat) : MS := if frB m a s = true then { m with lw := put m.lw (a, s) } else m
def mBegin (m : MS) : MS := if m.un = true then m else { m with ep := m.ep + 1, un := true, lw := [], lb := m.lw }
def mEnd (m : MS) : MS := if m.un = true then { m with un := false, lb := [] } else m
def mEnded (m : MS) : Int := if m.un = true then (m.ep : Int) - 1 else m.ep
def mTick (m : MS) : Int := if 0 < m.lw.length then (m.ep : Int) + 1 else if 0 < m.lb.length then m.ep else mEnded m
/-- A yard all of whose changing blocks are new since w0, where nothing older has turned. -/
structure Yw (w0 w : World) (y : Nat) (m : MS) (s : YS) : Prop where
  yd : Yd w s
  f : Fr [] w0 w
  y0 : w0.heap.size ≤ s.y
  c0 : w0.heap.size ≤ s.c
  own : ∀ g, s.wv.ownBlock = some g → w0.heap.size ≤ g
  yy : s.y = y
  ms : s.ms = m
/-- The blocks that the yard may still change. -/
def YS.foot (s : YS) : List Nat := s.y :: s.c :: s.wv.ownBlock.toList
def Yq (w0 w : World) (y : Nat) (m : MS) : Prop := ∃ s, Yw w0 w y m s
section
variable {w0 w w' : World} {y : Nat} {m : MS} {s : YS}
theorem Yw.fr (h : Yw w0 w y m s) (f : Fr [] w w') : Yw w0 w' y m s := ⟨h.yd.fr0 f, h.f.trans0 f, h.y0, h.c0, h.own, h.yy, h.ms⟩
theorem Yw.far (h : Yw w0 w y m s) {S : List Nat} (hS : ∀ k ∈ S, k ∈ s.foot) (f : Fr S w w') : Fr [] w0 w' := h.f.trans f (fun k hk => .inr (by
  have := hS k hk
  unfold YS.foot at this
  rcases List.mem_cons.1 this with rfl | this
  · exact h.y0
  · rcases List.mem_cons.1 this with rfl | this
    · exact h.c0
    · cases hv : s.wv.ownBlock with
      | none => rw [hv] at this; simp at this
      | some g => rw [hv] at this; simp at this; subst this; exact h.own _ hv))
/-- What a change of a yard leaves: the yard anew, and which blocks may have turned. -/
structure Turn (w0 w : World) (y : Nat) (s : YS) (m' : MS) (w' : World) (s' : YS) : Prop where
  yw : Yw w0 w' y m' s'
  f : Fr s.foot w w'
  foot : ∀ k ∈ s'.foot, k ∈ s.foot ∨ w.heap.size ≤ k
theorem free_m (h : Yw w0 w y m s) (a r : Nat) (ha : a < 4294967296) (hr : r < 4294967296) : Calls Try.prog 9 #[.pointer (some ⟨y, 0, none⟩), .agg #[.int .u32 a, .int .u32 r]] w fun e w' => e = .returned (.bool (frB m a r)) ∧ ∃ s', Turn w0 w y s (mFree m a r) w' s' := by
  obtain ⟨hyd, hf, hy0, hc0, hown, rfl, rfl⟩ := id h
  have same : ∀ w', Fr [] w w' → ∃ s', Turn w0 w s.y s s.ms w' s' := fun w' f => ⟨s, h.fr f, f.more (by simp), fun k hk => .inl hk⟩
  by_cases hg : a % 16 = 0 ∧ r % 16 = 0 ∧ 0 < r ∧ a + r ≤ 16 * s.n
  · obtain ⟨A, hA⟩ : ∃ A, a = 16 * A := ⟨a / 16, by omega⟩
    obtain ⟨R, hR⟩ : ∃ R, r = 16 * R := ⟨r / 16, by omega⟩
    subst hA hR
    have hb : frB s.ms (16 * A) (16 * R) = !(tch (cov s.lw) A R || tch (cov s.lb) A R) := by
      unfold frB
      change (decide (16 * A % 16 = 0 ∧ 16 * R % 16 = 0 ∧ 0 < 16 * R ∧ 16 * A + 16 * R ≤ 16 * s.n) && !(tch (cov s.lw) (16 * A / 16) (16 * R / 16) || tch (cov s.lb) (16 * A / 16) (16 * R / 16))) = _
      rw [decide_eq_true hg, Bool.true_and, Nat.mul_div_cancel_left _ (by omega), Nat.mul_div_cancel_left _ (by omega)]
    unfold mFree
    rw [hb]
    cases ht : (tch (cov s.lw) A R || tch (cov s.lb) A R)
    · rw [Bool.not_false, if_pos rfl]
      refine (qfree_yes w s hyd A R (by omega) (by omega) ht).mono ?_
      rintro e w' ⟨k, v', rfl, hp, h1, h2, h3⟩
      have hk := pl_place _ _ _ hp
      refine ⟨rfl, _, ⟨h1, ?_, hy0, hc0, fun g hg => ?_, rfl, ?_⟩, h2, fun q hq => ?_⟩
      · exact h.far (S := s.foot) (fun k hk => hk) h2
      · rcases h3 g hg with h4 | h4
        · exact hown g h4
        · exact Nat.le_trans hf.size h4
      · unfold YS.ms put
        dsimp only
        rw [hk]
      · unfold YS.foot at hq ⊢
        dsimp only at hq
        rcases List.mem_cons.1 hq with rfl | hq
        · exact .inl List.mem_cons_self
        · rcases List.mem_cons.1 hq with rfl | hq
          · exact .inl (List.mem_cons_of_mem _ List.mem_cons_self)
          · cases hv : v'.ownBlock with
            | none => rw [hv] at hq; simp at hq
            | some g =>
              rw [hv] at hq
              simp at hq
              subst hq
              rcases h3 _ hv with h4 | h4
              · rw [h4]; exact .inl (by simp)
              · exact .inr h4
    · rw [Bool.not_true, if_neg (by simp)]
      refine (qfree_hit w s hyd A R (by omega) (by omega) ht).mono ?_
      rintro e w' ⟨rfl, f⟩
      exact ⟨rfl, same w' f⟩
  · have hb : frB s.ms a r = false := by
      unfold frB
      change (decide (a % 16 = 0 ∧ r % 16 = 0 ∧ 0 < r ∧ a + r ≤ 16 * s.n) && _) = _
      rw [decide_eq_false hg, Bool.false_and]
    unfold mFree
    rw [hb, if_neg (by simp)]
    refine (qfree_no w s hyd a r ha hr hg).mono ?_
    rintro e w' ⟨rfl, f⟩
    exact ⟨rfl, same w' f⟩
theorem begin_m (h : Yw w0 w y m s) (he : m.ep < 1000000) : Calls Try.prog 11 #[.pointer (some ⟨y, 0, none⟩)] w fun e w' => e = .returned (.tuple #[.int .u64 (if m.un = true then 0 else m.ep + 1 : Nat), .bool (!m.un)]) ∧ ∃ s', Turn w0 w y s (mBegin m) w' s' := by
  obtain ⟨hyd, hf, hy0, hc0, hown, rfl, rfl⟩ := id h
  unfold mBegin
  cases hu : s.ms.un
  · rw [if_neg (by simp), if_neg (by simp), Bool.not_false]
    refine (qbegin_yes hyd hu he).mono ?_
    rintro e w' ⟨p, q, g, rfl, h1, ⟨h2, h3, h4⟩, h5⟩
    refine ⟨rfl, _, ⟨h1, ?_, hy0, Nat.le_trans hf.size h4, (fun g hg => by simp [Value.ownBlock] at hg), rfl, rfl⟩, h5.more (fun k hk => .inl (by simp at hk; subst hk; exact List.mem_cons_self)), fun k hk => ?_⟩
    · exact h.far (S := [s.y]) (fun k hk => by simp at hk; subst hk; exact List.mem_cons_self) h5
    · unfold YS.foot at hk
      simp [Value.ownBlock] at hk
      rcases hk with rfl | rfl
      · exact .inl List.mem_cons_self
      · exact .inr h4
  · rw [if_pos rfl, if_pos rfl, Bool.not_true]
    refine (qbegin_no hyd hu).mono ?_
    rintro e w' ⟨rfl, rfl⟩
    exact ⟨rfl, s, h, Fr.refl _ _, fun k hk => .inl hk⟩
theorem end_m (h : Yw w0 w y m s) : Calls Try.prog 12 #[.pointer (some ⟨y, 0, none⟩)] w fun e w' => ∃ v, e = .returned v ∧ w'.ownsRow 0 30 2 v (if m.un = true then m.lb else []).length (rgv (if m.un = true then m.lb else [])) ∧ (∀ g, v.ownBlock = some g → g ∉ s.foot) ∧ ∃ s', Turn w0 w y s (mEnd m) w' s' := by
  obtain ⟨hyd, hf, hy0, hc0, hown, rfl, rfl⟩ := id h
  unfold mEnd
  cases hu : s.ms.un
  · rw [if_neg (by simp), if_neg (by simp)]
    refine (qend_no hyd hu).mono ?_
    rintro e w' ⟨rfl, rfl⟩
    exact ⟨_, rfl, World.ownsRow_nil _ _ _ _, (fun g hg => by simp [Value.ownBlock] at hg), s, h, Fr.refl _ _, fun k hk => .inl hk⟩
  · rw [if_pos rfl, if_pos rfl]
    refine (qend_yes hyd hu).mono ?_
    rintro e w' ⟨p, q, g, rfl, h1, ⟨h2, h3, h4⟩, h5⟩
    refine ⟨_, rfl, ?_, (fun g hg hm => ?_), _, ⟨h1, ?_, hy0, hc0, hown, rfl, rfl⟩, h5.more (fun k hk => .inl (by simp at hk; subst hk; exact List.mem_cons_self)), fun k hk => .inl hk⟩
    · exact own_fr hyd.bt.own h5 (fun g hg => by have := own_ne hyd.bt.own hyd.at_ (by decide) g hg; simpa using this)
    · obtain ⟨-, -, ⟨_, hcc⟩⟩ := Pt.blocks hyd.wt.pt
      unfold YS.foot at hm
      rcases List.mem_cons.1 hm with rfl | hm
      · exact own_ne hyd.bt.own hyd.at_ (by decide) _ hg rfl
      · rcases List.mem_cons.1 hm with rfl | hm
        · exact own_ne hyd.bt.own hcc (by decide) _ hg rfl
        · cases hv : s.wv.ownBlock with
          | none => rw [hv] at hm; simp at hm
          | some k => rw [hv] at hm; simp at hm; subst hm; exact hyd.apart g hv hg
    · exact h.far (S := [s.y]) (fun k hk => by simp at hk; subst hk; exact List.mem_cons_self) h5
theorem sweep_m (h : Yw w0 w y m s) : Calls Try.prog 18 #[.pointer (some ⟨y, 0, none⟩)] w fun e w' => e = .returned (.bool m.un) ∧ w = w' := by
  obtain ⟨hyd, hf, hy0, hc0, hown, rfl, rfl⟩ := id h
  exact qsweep_any hyd
theorem epoch_m (h : Yw w0 w y m s) : Calls Try.prog 32 #[.pointer (some ⟨y, 0, none⟩)] w fun e w' => e = .returned (.int .u64 (m.ep : Int)) ∧ w = w' := by
  obtain ⟨hyd, hf, hy0, hc0, hown, rfl, rfl⟩ := id h
  exact qepoch_any hyd
theorem tick_m (h : Yw w0 w y m s) : Calls Try.prog 16 #[.pointer (some ⟨y, 0, none⟩)] w fun e w' => e = .returned (.int .u64 (mTick m)) ∧ w = w' := by
  obtain ⟨hyd, hf, hy0, hc0, hown, rfl, rfl⟩ := id h
  exact qticket_any hyd
theorem done_m (h : Yw w0 w y m s) (t : Int) : Calls Try.prog 17 #[.pointer (some ⟨y, 0, none⟩), .int .u64 t] w fun e w' => e = .returned (.bool (decide (t ≤ mEnded m))) ∧ w = w' := by
  obtain ⟨hyd, hf, hy0, hc0, hown, rfl, rfl⟩ := id h
  exact qdone_any hyd t
theorem wait_m (h : Yw w0 w y m s) : Calls Try.prog 14 #[.pointer (some ⟨y, 0, none⟩)] w fun e w' => ∃ v, e = .returned v ∧ w'.ownsRow w.heap.size 30 2 v m.lw.length (rgv m.lw) ∧ Fr [] w w' := by
  obtain ⟨hyd, hf, hy0, hc0, hown, rfl, rfl⟩ := id h
  exact qwait_any hyd
theorem batch_m (h : Yw w0 w y m s) : Calls Try.prog 15 #[.pointer (some ⟨y, 0, none⟩)] w fun e w' => ∃ v, e = .returned v ∧ w'.ownsRow w.heap.size 30 2 v m.lb.length (rgv m.lb) ∧ Fr [] w w' := by
  obtain ⟨hyd, hf, hy0, hc0, hown, rfl, rfl⟩ := id h
  exact qbatch_any hyd
theorem paint_m (h : Yw w0 w y m s) : Calls Try.prog 27 #[.pointer (some ⟨y, 0, none⟩)] w fun e w' => ∃ p q g, e = .returned (.pointer (some ⟨p, 0, none⟩)) ∧ Pt w' p q g m.n (cov m.lb) ∧ (w.heap.size ≤ p ∧ w.heap.size ≤ q ∧ w.heap.size ≤ g) ∧ Fr [] w w' := by
  obtain ⟨hyd, hf, hy0, hc0, hown, rfl, rfl⟩ := id h
  exact qpaint_any hyd
theorem copy_m (h : Yw w0 w y m s) : Calls Try.prog 25 #[.pointer (some ⟨y, 0, none⟩)] w fun e w' => ∃ y2 s2, e = .returned (.pointer (some ⟨y2, 0, none⟩)) ∧ Yw w0 w' y2 m s2 ∧ (∀ k ∈ s2.foot, w.heap.size ≤ k) ∧ Fr [] w w' := by
  obtain ⟨hyd, hf, hy0, hc0, hown, rfl, rfl⟩ := id h
  refine (qcopy_any hyd).mono ?_
  rintro e w' ⟨y2, v1, p1, q1, g1, v2, p2, q2, g2, rfl, h1, ⟨h2, h3, h4, h5, h6⟩, h7⟩
  refine ⟨y2, _, rfl, ⟨h1, hf.trans0 h7, Nat.le_trans hf.size h2, Nat.le_trans hf.size h3, fun g hg => Nat.le_trans hf.size (h5 g hg), rfl, rfl⟩, fun k hk => ?_, h7⟩
  unfold YS.foot at hk
  dsimp only at hk
  rcases List.mem_cons.1 hk with rfl | hk
  · exact h2
  · rcases List.mem_cons.1 hk with rfl | hk
    · exact h3
    · cases hv : v1.ownBlock with
      | none => rw [hv] at hk; simp at hk
      | some g => rw [hv] at hk; simp at hk; subst hk; exact h5 _ hv
theorem new_m (w : World) (n : Nat) (hn : n ≤ 16384) : Calls Try.prog 8 #[.int .i64 (16 * n : Nat)] w fun e w' => ∃ y s, e = .returned (.pointer (some ⟨y, 0, none⟩)) ∧ Yw w w' y ⟨n, 0, false, [], []⟩ s ∧ (∀ k ∈ s.foot, w.heap.size ≤ k) ∧ Fr [] w w' := by
  refine (qnew_any w n hn).mono ?_
  rintro e w' ⟨s, rfl, h1, rfl, h3, h4, h5, h6, h7, h8, ⟨h9, h10, h11⟩, h12⟩
  refine ⟨s.y, s, rfl, ⟨h1, h12, h9, h10, (fun g hg => by rw [h7] at hg; simp [Value.ownBlock] at hg), rfl, by unfold YS.ms; rw [h3, h4, h5, h6]⟩, fun k hk => ?_, h12⟩
  unfold YS.foot at hk
  rw [h7] at hk
  simp [Value.ownBlock] at hk
  rcases hk with rfl | rfl
  · exact h9
  · exact h10
end
/-! ### regions held against each other; a list that is just one region -/
theorem rg_eq (a b c d : Int) (w : World) : (Op.equalIn 10000 30 (.agg #[.int .u32 a, .int .u32 b]) (.agg #[.int .u32 c, .int .u32 d])).run Try.prog w = .ok (decide (a = c) && decide (b = d)) w := by
  have u1 := Try.underlying28
  have a1 := Try.isAgg28
  have z1 := Try.sizeOf28
  have hS : Try.prog.underlying 30 = some (.struct (Try.prog.fieldsOf 30)) := by kernel_rfl
  rw [show (10000 : Nat) = 9999 + 1 from rfl, run_equalIn_struct w 9999 30 _ _ hS (by kernel_rfl)]
  simp only [Program.fieldsOf, Try.underlying30]
  go_simp
  by_cases h0 : a = c
  rotate_left
  · simp [h0]
  rw [if_pos h0]
  by_cases h1 : b = d
  rotate_left
  · simp [h1]
  rw [if_pos h1]
  simp [h0, h1]
set_option maxRecDepth 100000 in
theorem lone_any (w : World) (v : Value) (r : Nat × Nat) (hv : w.ownsRow 0 30 2 v 1 (rgv [r])) : Calls Try.prog 31 #[v, .agg #[.int .u32 r.1, .int .u32 r.2]] w fun e w' => e = .returned (.bool true) ∧ Fr [] w w' := by
  rcases rows_open hv with ⟨_, h0⟩ | ⟨g, cap, cur, rfl, -, hA, h1, h2, h3, h4⟩
  · omega
  · have q0 := rows_at (n := 1) (cap := cap) hA h4 0 0 (.int .u32 r.1) rfl
    have q1 := rows_at (n := 1) (cap := cap) hA h4 0 1 (.int .u32 r.2) rfl
    simp only [Nat.zero_add, Nat.add_zero] at q0 q1
    have Q0 := Lib.hid q0
    have Q1 := Lib.hid q1
    obtain ⟨a, b⟩ := r
    dsimp only at *
    have hgl := hA.lt
    have EQ := fun w => rg_eq a b a b w
    simp only [decide_true, Bool.and_true] at EQ
    have A0 := Lib.hid (At.new w 30 #[.int .u32 a, .int .u32 b])
    have F0 := Lib.hid (show Fr [] w (w.alloc (.cells #[.int .u32 a, .int .u32 b] 30)) from (by repeat (first | exact Fr.refl _ _ | assumption | refine Fr.trans0 ?_ (by assumption) | refine Fr.drewN ?_ _ | refine Fr.alloc ?_ _ | refine Fr.drew ?_)))
    clear hv hA h4 q0 q1
    go_enter Try.func31, Try.ntmps31
    go_wp2_with fail
    refine wp_region_L (fun W => Fr [] w W ∧ At W w.heap.size 30 #[.int .u32 a, .int .u32 b]) [] (by kernel_rfl) ⟨F0.out.drew, A0.out.hp rfl⟩ (fun hHeld => ?_)
    refine wpAnyL_take (i := 0) (v := ?_) rfl (by kernel_rfl) (fun _ _ _ h => h) (Or.inl ⟨by rfl, ?_⟩) (by assumption) ?_; rotate_left; (focus (intro w hSw; skip; go_simp; (try with_reducible rfl))); (try (refine wpAnyL_norm (by simp only [Act.put, List.setIfInBounds_toArray, List.set_cons_zero, List.set_cons_succ]; rfl) ?_))
    refine wpAnyL_take (i := 1) (v := ?_) rfl (by kernel_rfl) (fun _ _ _ h => h) (Or.inl ⟨by rfl, ?_⟩) (by assumption) ?_; rotate_left; (focus (intro w hSw; skip; go_simp; (try with_reducible rfl))); (try (refine wpAnyL_norm (by simp only [Act.put, List.setIfInBounds_toArray, List.set_cons_zero, List.set_cons_succ]; rfl) ?_))
    refine wpAnyL_take (i := 2) (v := ?_) rfl (by kernel_rfl) (fun _ _ _ h => h) (Or.inl ⟨by rfl, ?_⟩) (by assumption) ?_; rotate_left; (focus (intro w hSw; skip; go_simp; (try with_reducible rfl))); (try (refine wpAnyL_norm (by simp only [Act.put, List.setIfInBounds_toArray, List.set_cons_zero, List.set_cons_succ]; rfl) ?_))
    refine wpAnyL_take (i := 3) (v := ?_) rfl (by kernel_rfl) (fun _ _ _ h => h) (Or.inl ⟨by rfl, ?_⟩) (by assumption) ?_; rotate_left; (focus (intro w hSw; skip; go_simp; (try with_reducible rfl))); (try (refine wpAnyL_norm (by simp only [Act.put, List.setIfInBounds_toArray, List.set_cons_zero, List.set_cons_succ]; rfl) ?_))
    refine wpAnyL_take (i := 4) (v := ?_) rfl (by kernel_rfl) (fun _ _ _ h => h) (Or.inl ⟨by rfl, ?_⟩) (by assumption) ?_; rotate_left; (focus (intro w hSw; skip; go_simp; (try with_reducible rfl))); (try (refine wpAnyL_norm (by simp only [Act.put, List.setIfInBounds_toArray, List.set_cons_zero, List.set_cons_succ]; rfl) ?_))
    refine wpAnyL_take (i := 5) (v := ?_) rfl (by kernel_rfl) (fun _ _ _ h => h) (Or.inl ⟨by rfl, ?_⟩) (by assumption) ?_; rotate_left; (focus (intro w hSw; skip; go_simp; (try with_reducible rfl))); (try (refine wpAnyL_norm (by simp only [Act.put, List.setIfInBounds_toArray, List.set_cons_zero, List.set_cons_succ]; rfl) ?_))
    refine wpAnyL_take (i := 6) rfl (by kernel_rfl) (fun _ _ _ h => h) (yields_load_at 30 (.tmp 10) rfl ⟨g, 0, none⟩ rfl [.int .u32 a, .int .u32 b] _ (fun W h j v hv => by
        rw [Go.WideShapes.add_plain, Nat.zero_add]
        match j, hv with
        | 0, hv => exact ((h.1.cell (a := ⟨g, 0, none⟩) hgl (by simp)).trans Q0.out).trans hv
        | 1, hv => exact ((h.1.cell (a := ⟨g, 1, none⟩) hgl (by simp)).trans Q1.out).trans hv) Try.underlying30 rfl infoRgS rfl) (by assumption) ?_; (try (refine wpAnyL_norm (by simp only [Act.put, List.setIfInBounds_toArray, List.set_cons_zero, List.set_cons_succ]; rfl) ?_))
    refine wpAnyL_take (i := 7) rfl (by kernel_rfl) (fun _ _ _ h => h) (yields_load_at 30 (.tmp 3) rfl ⟨w.heap.size, 0, none⟩ rfl [.int .u32 a, .int .u32 b] _ (fun W h => two_at h.2 0 _ _ rfl rfl) Try.underlying30 rfl infoRgS rfl) (by assumption) ?_; (try (refine wpAnyL_norm (by simp only [Act.put, List.setIfInBounds_toArray, List.set_cons_zero, List.set_cons_succ]; rfl) ?_))
    refine wpAnyL_take (i := 8) (v := ?_) rfl (by kernel_rfl) (fun _ _ _ h => h) (Or.inl ⟨by rfl, ?_⟩) (by assumption) ?_; rotate_left; (focus (intro w hSw; skip; go_simp; (try with_reducible rfl))); (try (refine wpAnyL_norm (by simp only [Act.put, List.setIfInBounds_toArray, List.set_cons_zero, List.set_cons_succ]; rfl) ?_))
    refine wpAnyL_take (i := 9) (v := ?_) rfl (by kernel_rfl) (fun _ _ _ h => h) (Or.inl ⟨by rfl, ?_⟩) (by assumption) ?_; rotate_left; (focus (intro w hSw; skip; go_simp; (try with_reducible rfl))); (try (refine wpAnyL_norm (by simp only [Act.put, List.setIfInBounds_toArray, List.set_cons_zero, List.set_cons_succ]; rfl) ?_))
    refine wpAnyL_take (i := 10) (v := ?_) rfl (by kernel_rfl) (fun _ _ _ h => h) (Or.inl ⟨by rfl, ?_⟩) (by assumption) ?_; rotate_left; (focus (intro w hSw; skip; go_simp; (try with_reducible rfl))); (try (refine wpAnyL_norm (by simp only [Act.put, List.setIfInBounds_toArray, List.set_cons_zero, List.set_cons_succ]; rfl) ?_))
    refine wpAnyL_done (by kernel_rfl) ?_ _
    go_wp2_with fail
    go_ret
    exact ⟨rfl, hHeld.1⟩
end Go.Proofs.Ytflhpgfnffmimaa
