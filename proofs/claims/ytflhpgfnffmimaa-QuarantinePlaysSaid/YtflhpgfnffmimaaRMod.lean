/-
  What the reference's functions of a yard answer, by what m says. Condition: a million sweeps at most.
-/



import Derived.Test.YtflhpgfnffmimaaRBoth
set_option linter.unusedVariables false
namespace Go.Proofs.Ytflhpgfnffmimaa
open Go.ChangeShapes Go.WideShapes Go.ChangeAt Go.RowKit
/-- The two lists, apart from what the yard s may change. -/
structure Rl (w : World) (s : YS) (m : MS) (wa : Option Addr) (wc : Nat) (la : Option Addr) (lc : Nat) : Prop where
  ow : w.ownsRow 0 30 2 (.slice wa m.lw.length wc) m.lw.length (rgv m.lw)
  ol : w.ownsRow 0 30 2 (.slice la m.lb.length lc) m.lb.length (rgv m.lb)
  fw : ∀ g, (Value.slice wa m.lw.length wc).ownBlock = some g → g ∉ s.foot
  fl : ∀ g, (Value.slice la m.lb.length lc).ownBlock = some g → g ∉ s.foot
section
variable {w w' : World} {q n : Nat} {m m' : MS} {s : YS} {cs : Array Value} {wa la wa' la' : Option Addr} {wc lc wc' lc' : Nat}
theorem Rf.rl (h : Rf w s q n m wa wc la lc) : Rl w s m wa wc la lc := ⟨h.ow, h.ol, h.fw, h.fl⟩
theorem Rl.fr (h : Rl w s m wa wc la lc) (f : Fr [] w w') : Rl w' s m wa wc la lc := ⟨own_fr0 h.ow f, own_fr0 h.ol f, h.fw, h.fl⟩
theorem Rf.put (h : Rf w s q n m wa wc la lc) (f : Fr [q] w w') (ha : At w' q 45 (ryc (16 * n : Nat) wa' m'.lw.length wc' la' m'.lb.length lc' m'.ep m'.un)) (hl : Rl w s m' wa' wc' la' lc') : Rf w' s q n m' wa' wc' la' lc' := h.store f ha hl.ow hl.ol hl.fw hl.fl
theorem ryc_size (b : Int) (wn ln ep : Nat) (un : Bool) : (ryc b wa wn wc la ln lc ep un).size = 5 := rfl
theorem ryc_one (b : Int) (wn ln ep : Nat) (un : Bool) : (ryc b wa wn wc la ln lc ep un).all (·.oneCell') = true := by simp [ryc, Value.oneCell']
end
section
variable (w : World) (n : Nat) (m : MS) (s : YS) (wa la : Option Addr) (wc lc : Nat) (hl : Rl w s m wa wc la lc) (hs : ∀ k ∈ s.foot, k < w.heap.size) (hn : n ≤ 16384)
include hl hs hn
theorem rfree_m (hmn : m.n = n) (hw : Good m.n m.lw) (hb : Good m.n m.lb) (a r : Nat) (ha : a < 4294967296) (hr : r < 4294967296) :
    Calls Try.prog 21 #[.agg (ryc (16 * n : Nat) wa m.lw.length wc la m.lb.length lc m.ep m.un), .agg #[.int .u32 a, .int .u32 r]] w fun e w' => ∃ wa' wc' la' lc', e = .returned (.tuple #[.agg (ryc (16 * n : Nat) wa' (mFree m a r).lw.length wc' la' (mFree m a r).lb.length lc' (mFree m a r).ep (mFree m a r).un), .bool (frB m a r)]) ∧ Rl w' s (mFree m a r) wa' wc' la' lc' ∧ Fr [] w w' := by
  subst hmn
  have hgw := good_bd hw hn
  have hgb := good_bd hb hn
  have hlw := Nat.le_trans hw.len hn
  have hlb := Nat.le_trans hb.len hn
  have hok := ok_frB m hw hb a r
  unfold mFree
  by_cases hB : frB m a r = true
  · rw [if_pos hB, hB]
    rw [hB] at hok
    obtain ⟨⟨h1, h2, h3, h4⟩, h5⟩ := ok_parts hok
    refine (rfree_yes w (16 * m.n) wa wc la lc m.ep m.un (by omega) a r ha hr m.lw m.lb 0 0 hl.ow hl.ol hgw hgb (by omega) (by omega) h1 h2 h3 h4 h5).mono ?_
    rintro e w' ⟨wa', wc', rfl, ho, hf⟩
    have hlen : (put m.lw (a, r)).length = m.lw.length + 1 := by rw [← put_wth m hw a r hok, ref16.wth_len]
    dsimp only
    rw [hlen]
    rw [put_wth m hw a r hok] at ho
    refine ⟨wa', wc', la, lc, rfl, ⟨?_, own_fr0 hl.ol hf, fun g hg hk => ?_, hl.fl⟩, hf⟩
    · dsimp only
      rw [hlen]
      exact own_base ho (Nat.zero_le _)
    · dsimp only at hg
      rw [hlen] at hg
      have h1 := own_geR ho g hg
      have h2 := hs g hk
      omega
  · rw [if_neg hB]
    rw [Bool.not_eq_true] at hB
    rw [hB] at hok ⊢
    have key : Calls Try.prog 21 #[.agg (ryc (16 * m.n : Nat) wa m.lw.length wc la m.lb.length lc m.ep m.un), .agg #[.int .u32 a, .int .u32 r]] w fun e w' => e = .returned (.tuple #[.agg (ryc (16 * m.n : Nat) wa m.lw.length wc la m.lb.length lc m.ep m.un), .bool false]) ∧ Fr [] w w' := by
      by_cases hg : a % 16 = 0 ∧ r % 16 = 0 ∧ 0 < r ∧ a + r ≤ 16 * m.n
      · obtain ⟨h1, h2, h3, h4⟩ := id hg
        refine rfree_hit w (16 * m.n) wa wc la lc m.ep m.un (by omega) a r ha hr m.lw m.lb 0 0 hl.ow hl.ol hgw hgb (by omega) (by omega) h1 h2 h3 h4 ?_
        unfold ref16.ok at hok
        rw [decide_eq_true hg, Bool.true_and] at hok
        revert hok
        cases ref16.mts m.lw (a, r) <;> cases ref16.mts m.lb (a, r) <;> simp
      · exact rfree_bad w (16 * m.n) wa m.lw.length wc la m.lb.length lc m.ep m.un (by omega) a r ha hr hg
    exact key.mono fun e w' ⟨h1, h2⟩ => ⟨wa, wc, la, lc, h1, hl.fr h2, h2⟩
omit hs hn in
theorem rbegin_m (he : m.ep < 1000000) :
    Calls Try.prog 22 #[.agg (ryc (16 * n : Nat) wa m.lw.length wc la m.lb.length lc m.ep m.un)] w fun e w' => ∃ wa' wc' la' lc', e = .returned (.tuple #[.agg (ryc (16 * n : Nat) wa' (mBegin m).lw.length wc' la' (mBegin m).lb.length lc' (mBegin m).ep (mBegin m).un), .int .u64 (if m.un = true then 0 else m.ep + 1 : Nat), .bool (!m.un)]) ∧ Rl w' s (mBegin m) wa' wc' la' lc' ∧ Fr [] w w' := by
  obtain ⟨N, ep, un, lw, lb⟩ := m
  dsimp only at *
  cases un
  · refine (rbegin_yes w _ wa lw.length wc la lb.length lc ep (by omega)).mono ?_
    rintro e w' ⟨rfl, hf⟩
    exact ⟨none, 0, wa, wc, rfl, ⟨World.ownsRow_nil _ _ _ _, own_fr0 hl.ow hf, (fun g hg => by simp [mBegin, Value.ownBlock] at hg), hl.fw⟩, hf⟩
  · refine (rbegin_no w _ wa lw.length wc la lb.length lc ep).mono ?_
    rintro e w' ⟨rfl, hf⟩
    exact ⟨wa, wc, la, lc, rfl, hl.fr hf, hf⟩
omit hs hn in
theorem rend_m :
    Calls Try.prog 23 #[.agg (ryc (16 * n : Nat) wa m.lw.length wc la m.lb.length lc m.ep m.un)] w fun e w' => ∃ wa' wc' la' lc' v, e = .returned (.tuple #[.agg (ryc (16 * n : Nat) wa' (mEnd m).lw.length wc' la' (mEnd m).lb.length lc' (mEnd m).ep (mEnd m).un), v]) ∧ w'.ownsRow 0 30 2 v (if m.un = true then m.lb else []).length (rgv (if m.un = true then m.lb else [])) ∧ Rl w' s (mEnd m) wa' wc' la' lc' ∧ Fr [] w w' := by
  obtain ⟨N, ep, un, lw, lb⟩ := m
  dsimp only at *
  cases un
  · refine (rendw_no w _ wa lw.length wc la lb.length lc ep).mono ?_
    rintro e w' ⟨rfl, hf⟩
    exact ⟨wa, wc, la, lc, _, rfl, World.ownsRow_nil _ _ _ _, hl.fr hf, hf⟩
  · refine (rendw_yes w _ wa lw.length wc la lb.length lc ep).mono ?_
    rintro e w' ⟨rfl, hf⟩
    exact ⟨wa, wc, none, 0, _, rfl, own_fr0 hl.ol hf, ⟨own_fr0 hl.ow hf, World.ownsRow_nil _ _ _ _, hl.fw, (fun g hg => by simp [mEnd, Value.ownBlock] at hg)⟩, hf⟩
omit hs in
theorem rhas_m (hmn : m.n = n) (hb : Good m.n m.lb) (a : Nat) (ha : a < 4294967296) :
    Calls Try.prog 29 #[.agg (ryc (16 * n : Nat) wa m.lw.length wc la m.lb.length lc m.ep m.un), .int .u32 a] w fun e w' => e = .returned (.bool (cov m.lb (a / 16))) ∧ Fr [] w w' := by
  subst hmn
  have hlb := Nat.le_trans hb.len hn
  have h := rhas_any w (16 * m.n : Nat) wa m.lw.length wc la m.lb.length lc m.ep m.un m.lb 0 rfl hl.ol (good_bd hb hn) (by omega) a ha
  rw [ref16.mts_cov _ (fun q hq => ⟨(hb.al q hq).1, (hb.al q hq).2.1⟩)] at h
  exact h
end
end Go.Proofs.Ytflhpgfnffmimaa
