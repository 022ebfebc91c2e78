/-
  The reference's yard in a variable, beside a yard: what keeps it; the two answer alike. Condition: a million sweeps at most.
-/



import Derived.Test.YtflhpgfnffmimaaRLaw
set_option linter.unusedVariables false
namespace Go.Proofs.Ytflhpgfnffmimaa
open Go.ChangeShapes Go.WideShapes Go.ChangeAt Go.RowKit
section
variable {w0 w w' : World} {y q n : Nat} {m m' : MS} {s s' : YS} {cs : Array Value} {wa la : Option Addr} {wc lc : Nat}
theorem offR {a b c : Nat} {f : Nat → Bool} (h : Pt w a b c n f) (hq : At w q 45 cs) : a ≠ q ∧ b ≠ q ∧ c ≠ q := by
  obtain ⟨⟨_, h1⟩, ⟨_, h2⟩, ⟨_, h3⟩⟩ := Pt.blocks h
  refine ⟨?_, ?_, ?_⟩
  · rintro rfl; exact absurd (h1.inj hq).1 (by decide)
  · rintro rfl; exact absurd (h2.inj hq).1 (by decide)
  · rintro rfl; exact absurd (h3.inj hq).1 (by decide)
theorem Yw.nfootR (h : Yw w0 w y m s) (hq : At w q 45 cs) : q ∉ s.foot := fun hk => by
  unfold YS.foot at hk
  rcases List.mem_cons.1 hk with e | hk
  · subst e; exact absurd (h.yd.at_.inj hq).1 (by decide)
  · rcases List.mem_cons.1 hk with e | hk
    · exact (offR h.yd.wt.pt hq).2.2 e.symm
    · cases hv : s.wv.ownBlock with
      | none => rw [hv] at hk; simp at hk
      | some g => rw [hv] at hk; simp at hk; exact own_ne h.yd.wt.own hq (by decide) g hv hk.symm
theorem Yw.offR (h : Yw w0 w y m s) (hq : At w q 45 cs) (hq0 : w0.heap.size ≤ q) (f : Fr [q] w w') : Yw w0 w' y m s := by
  have a1 := Go.Proofs.Ytflhpgfnffmimaa.offR h.yd.wt.pt hq
  have a2 := Go.Proofs.Ytflhpgfnffmimaa.offR h.yd.bt.pt hq
  have a3 := own_ne h.yd.wt.own hq (by decide)
  have a4 := own_ne h.yd.bt.own hq (by decide)
  have a5 : s.y ≠ q := fun e => by have := h.yd.at_; rw [e] at this; exact absurd (this.inj hq).1 (by decide)
  exact ⟨⟨h.yd.at_.fr f (by simpa using a5), h.yd.wt.fr f (by simpa using a1.1) (by simpa using a1.2.1) (by simpa using a1.2.2) (fun g hg => by simpa using a3 g hg), h.yd.bt.fr f (by simpa using a2.1) (by simpa using a2.2.1) (by simpa using a2.2.2) (fun g hg => by simpa using a4 g hg), h.yd.ne, h.yd.apart, h.yd.up, h.yd.few⟩, h.f.trans f (by simp; omega), h.y0, h.c0, h.own, h.yy, h.ms⟩
theorem own_atR {b k size : Nat} {e : TypeId} {v : Value} {xs : List Value} (h : w.ownsRow b e size v k xs) : ∀ g, v.ownBlock = some g → ∃ t cs, At w g t cs := fun g hg => by
  rcases h.2 with ⟨rfl, _⟩ | ⟨g', cap, cur, rfl, _, hgg, _⟩
  · simp [Value.ownBlock] at hg
  · simp [Value.ownBlock] at hg; subst hg; exact ⟨e, cur, hgg⟩
theorem foot_ltR (h : Yw w0 w y m s) : ∀ k ∈ s.foot, k < w.heap.size := fun k hk => by
  unfold YS.foot at hk
  rcases List.mem_cons.1 hk with e | hk
  · subst e; exact h.yd.at_.lt
  · rcases List.mem_cons.1 hk with e | hk
    · subst e; exact h.yd.wt.lt.2.2
    · cases hv : s.wv.ownBlock with
      | none => rw [hv] at hk; simp at hk
      | some g =>
        rw [hv] at hk; simp at hk; subst hk
        obtain ⟨t, cs, ha⟩ := own_atR h.yd.wt.own k hv
        exact ha.lt
/-- The reference's yard, of what m says, in block q; apart from what the yard s may change. -/
structure Rf (w : World) (s : YS) (q n : Nat) (m : MS) (wa : Option Addr) (wc : Nat) (la : Option Addr) (lc : Nat) : Prop where
  at_ : At w q 45 (ryc (16 * n : Nat) wa m.lw.length wc la m.lb.length lc m.ep m.un)
  nq : q ∉ s.foot
  ow : w.ownsRow 0 30 2 (.slice wa m.lw.length wc) m.lw.length (rgv m.lw)
  ol : w.ownsRow 0 30 2 (.slice la m.lb.length lc) m.lb.length (rgv m.lb)
  fw : ∀ g, (Value.slice wa m.lw.length wc).ownBlock = some g → g ∉ s.foot
  fl : ∀ g, (Value.slice la m.lb.length lc).ownBlock = some g → g ∉ s.foot
theorem Rf.fr (h : Rf w s q n m wa wc la lc) (f : Fr [] w w') : Rf w' s q n m wa wc la lc := ⟨h.at_.fr f (by simp), h.nq, own_fr0 h.ow f, own_fr0 h.ol f, h.fw, h.fl⟩
theorem Rf.turn (h : Rf w s q n m wa wc la lc) (t : Turn w0 w y s m' w' s') : Rf w' s' q n m wa wc la lc := by
  have key : ∀ g, g < w.heap.size → g ∉ s.foot → g ∉ s'.foot := fun g h1 h2 hk => by
    rcases t.foot g hk with hk | hk
    · exact h2 hk
    · omega
  refine ⟨h.at_.fr t.f h.nq, key q h.at_.lt h.nq, own_fr h.ow t.f h.fw, own_fr h.ol t.f h.fl, fun g hg => key g ?_ (h.fw g hg), fun g hg => key g ?_ (h.fl g hg)⟩
  · obtain ⟨_, _, ha⟩ := own_atR h.ow g hg; exact ha.lt
  · obtain ⟨_, _, ha⟩ := own_atR h.ol g hg; exact ha.lt
/-- Another yard, whose changing blocks are newer. -/
theorem Rf.other (h : Rf w s q n m wa wc la lc) (hk : ∀ k ∈ s'.foot, w.heap.size ≤ k) (f : Fr [] w w') : Rf w' s' q n m wa wc la lc := by
  have key : ∀ g, g < w.heap.size → g ∉ s'.foot := fun g h1 h2 => by have := hk g h2; omega
  refine ⟨h.at_.fr f (by simp), key q h.at_.lt, own_fr0 h.ow f, own_fr0 h.ol f, fun g hg => key g ?_, fun g hg => key g ?_⟩
  · obtain ⟨_, _, ha⟩ := own_atR h.ow g hg; exact ha.lt
  · obtain ⟨_, _, ha⟩ := own_atR h.ol g hg; exact ha.lt
/-- Stored anew. -/
theorem Rf.store {wa' la' : Option Addr} {wc' lc' : Nat} (h : Rf w s q n m wa wc la lc) (f : Fr [q] w w')
    (ha : At w' q 45 (ryc (16 * n : Nat) wa' m'.lw.length wc' la' m'.lb.length lc' m'.ep m'.un))
    (ow : w.ownsRow 0 30 2 (.slice wa' m'.lw.length wc') m'.lw.length (rgv m'.lw)) (ol : w.ownsRow 0 30 2 (.slice la' m'.lb.length lc') m'.lb.length (rgv m'.lb))
    (fw : ∀ g, (Value.slice wa' m'.lw.length wc').ownBlock = some g → g ∉ s.foot) (fl : ∀ g, (Value.slice la' m'.lb.length lc').ownBlock = some g → g ∉ s.foot) : Rf w' s q n m' wa' wc' la' lc' :=
  ⟨ha, h.nq, own_fr ow f (fun g hg => by simpa using own_ne ow h.at_ (by decide) g hg), own_fr ol f (fun g hg => by simpa using own_ne ol h.at_ (by decide) g hg), fw, fl⟩
end
theorem own_geR {w : World} {b n size : Nat} {e : TypeId} {v : Value} {xs : List Value} (h : w.ownsRow b e size v n xs) : ∀ g, v.ownBlock = some g → b ≤ g := fun g hg => by
  rcases h.2 with ⟨rfl, _⟩ | ⟨g', cap, cur, rfl, hb, _⟩
  · simp [Value.ownBlock] at hg
  · simp [Value.ownBlock] at hg; omega
/-! ### the two answer alike -/
theorem ok_frB (m : MS) (hw : Good m.n m.lw) (hb : Good m.n m.lb) (a s : Nat) : ref16.ok (16 * m.n) m.lw m.lb a s = frB m a s := by
  unfold ref16.ok frB
  by_cases hg : a % 16 = 0 ∧ s % 16 = 0 ∧ 0 < s ∧ a + s ≤ 16 * m.n
  · obtain ⟨A, hA⟩ : ∃ A, a = 16 * A := ⟨a / 16, by omega⟩
    obtain ⟨R, hR⟩ : ∃ R, s = 16 * R := ⟨s / 16, by omega⟩
    subst hA hR
    rw [ref16.mts_tch _ (fun q hq => ⟨(hw.al q hq).1, (hw.al q hq).2.1⟩) A R (by omega), ref16.mts_tch _ (fun q hq => ⟨(hb.al q hq).1, (hb.al q hq).2.1⟩) A R (by omega), Nat.mul_div_cancel_left _ (by omega), Nat.mul_div_cancel_left _ (by omega)]
  · rw [decide_eq_false hg, Bool.false_and, Bool.false_and]
theorem mts_or {x y : Bool} (h : (x || y) = false) : x = false := by cases x <;> simp_all
theorem ok_parts {b : Nat} {lw lb : List (Nat × Nat)} {a s : Nat} (h : ref16.ok b lw lb a s = true) : (a % 16 = 0 ∧ s % 16 = 0 ∧ 0 < s ∧ a + s ≤ b) ∧ (ref16.mts lw (a, s) || ref16.mts lb (a, s)) = false := by
  unfold ref16.ok at h
  rw [Bool.and_eq_true, decide_eq_true_eq, Bool.not_eq_true'] at h
  exact h
theorem put_wth (m : MS) (hw : Good m.n m.lw) (a s : Nat) (h : ref16.ok (16 * m.n) m.lw m.lb a s = true) : ref16.wth m.lw (a, s) = put m.lw (a, s) := by
  obtain ⟨h1, h2⟩ := ok_parts h
  exact ref16.wth_put _ _ (ref16.mts_ne (mts_or h2) h1.2.2.1 (fun q hq => (hw.al q hq).2.2.1))
theorem yw_good {w0 w : World} {y : Nat} {m : MS} {s : YS} (h : Yw w0 w y m s) : Good m.n m.lw ∧ Good m.n m.lb ∧ m.n ≤ 16384 ∧ (m.un = true → 1 ≤ m.ep) ∧ m.ep ≤ 1000000 ∧ m.lw.length ≤ 16384 ∧ m.lb.length ≤ 16384 := by
  obtain ⟨hyd, _, _, _, _, rfl, rfl⟩ := id h
  have h1 := hyd.wt.good.len
  have h2 := hyd.bt.good.len
  have h3 := hyd.wt.pt.2.2.2.2
  exact ⟨hyd.wt.good, hyd.bt.good, h3, hyd.up, hyd.few, Nat.le_trans h1 h3, Nat.le_trans h2 h3⟩
theorem good_bd {n : Nat} {l : List (Nat × Nat)} (h : Good n l) (hn : n ≤ 16384) : ∀ q ∈ l, q.1 < 4294967296 ∧ q.2 < 4294967296 := fun q hq => by
  have := h.al q hq; omega
end Go.Proofs.Ytflhpgfnffmimaa
