/-
  What follows of a history without faults, in plain Lean: what is handed out overlaps nothing that lives or rests; whoever drains, drains behind the release of what was freed before. No program in sight; no condition.
-/
import Derived.Test.YtkbdoiefgmbikaaPlain
set_option linter.unusedVariables false
namespace Go.Proofs.Ytkbdoiefgmbikaa
theorem no_fault {ha hs : Nat} : ∀ {l : List Ev} {i : Nat} {x : Sx}, histF ha hs l i x = [] → ∀ (k : Nat) (e : Ev), l[k]? = some e → (seeS ha hs (histX ha hs (l.take k) i x) e (i + k)).1 = 0
  | [], i, x, h, k, e, hk => by cases hk
  | y :: l, i, x, h, k, e, hk => by
    simp only [histF, List.append_eq_nil_iff] at h
    cases k with
    | zero =>
      simp at hk
      subst hk
      have h1 := h.1
      unfold ft at h1
      split at h1
      · assumption
      · cases h1
    | succ k =>
      have := no_fault h.2 k e (by simpa using hk)
      rw [List.take_succ_cons, show i + (k + 1) = i + 1 + k by omega]
      exact this
theorem hist_take {ha hs : Nat} {l : List Ev} {k : Nat} {e : Ev} (h : l[k]? = some e) : histX ha hs (l.take (k + 1)) 0 sx0 = (seeS ha hs (histX ha hs (l.take k) 0 sx0) e k).2 := by
  have hk := (List.getElem?_eq_some_iff.1 h).1
  rw [List.take_add_one, h, Option.toList_some, histX_snoc, List.length_take, Nat.min_eq_left (by omega), Nat.zero_add]
/-! ### apart -/
structure Ap (x : Sx) (N a s : Nat) (fr rl bg : Int) : Prop where
  n : N ≤ x.num
  one : 1 ≤ N
  b1 : -1 ≤ fr
  b2 : -1 ≤ rl
  b3 : -1 ≤ bg
  there : rl < 0 → ∃ g ∈ x.gs, g.n = N ∧ g.a = a ∧ g.s = s ∧ (g.rests = true ↔ 0 ≤ fr) ∧ (g.batch = true → 0 ≤ bg ∧ 0 ≤ fr)
  gone : 0 ≤ rl → ∀ g ∈ x.gs, g.n ≠ N
theorem ap_start {ha hs : Nat} {x : Sx} {e : Ev} {i : Nat} (hg : x.Good i) (hk : e.kind = 2) (h0 : (seeS ha hs x e i).1 = 0) : Ap (seeS ha hs x e i).2 e.num e.a e.s (-1) (-1) (-1) := by
  unfold seeS at *
  rw [if_pos hk] at *
  unfold grantS at *
  by_cases h1 : e.num ≠ x.num + 1
  · rw [if_pos h1] at h0; cases h0
  · rw [if_neg h1] at *
    by_cases h2 : e.s = 0 ∨ e.a < ha ∨ ha + hs < e.a + e.s
    · rw [if_pos h2] at h0; cases h0
    · rw [if_neg h2] at *
      cases h3 : x.gs.any (fun g => meetB g.a g.s e.a e.s)
      · rw [if_neg (by simp)]
        exact ⟨by show e.num ≤ x.num + 1; omega, by omega, by omega, by omega, by omega, fun _ => ⟨(⟨e.num, e.a, e.s, false, false, 0⟩ : Gr), List.mem_append_right _ (by simp), rfl, rfl, rfl, by simp, by simp⟩, fun h => by omega⟩
      · rw [h3, if_pos rfl] at h0; cases h0
section
variable {ha hs : Nat} {x : Sx} {e : Ev} {i N a s : Nat} {fr rl bg : Int}
theorem ap_grant (hg : x.Good i) (h : Ap x N a s fr rl bg) (hk : e.kind = 2) (h0 : (seeS ha hs x e i).1 = 0) : e.num ≠ N ∧ (rl < 0 → meetB a s e.a e.s = false) ∧ Ap (seeS ha hs x e i).2 N a s fr rl bg := by
  unfold seeS at *
  rw [if_pos hk] at *
  unfold grantS at *
  by_cases h1 : e.num ≠ x.num + 1
  · rw [if_pos h1] at h0; cases h0
  · rw [if_neg h1] at *
    by_cases h2 : e.s = 0 ∨ e.a < ha ∨ ha + hs < e.a + e.s
    · rw [if_pos h2] at h0; cases h0
    · rw [if_neg h2] at *
      cases h3 : x.gs.any (fun g => meetB g.a g.s e.a e.s)
      · rw [if_neg (by simp)]
        have hn := h.n
        refine ⟨by omega, fun hr => ?_, ⟨by show N ≤ x.num + 1; omega, h.one, h.b1, h.b2, h.b3, fun hr => ?_, fun hr g hm => ?_⟩⟩
        · obtain ⟨g, hm, _, rfl, rfl, _⟩ := h.there hr
          simpa using List.any_eq_false.1 h3 g hm
        · obtain ⟨g, hm, r⟩ := h.there hr
          exact ⟨g, List.mem_append_left _ hm, r⟩
        · rcases List.mem_append.1 hm with hm | hm
          · exact h.gone hr g hm
          · simp at hm; subst hm; show e.num ≠ N; omega
      · rw [h3, if_pos rfl] at h0; cases h0
theorem findG_one (hg : x.Good i) {g : Gr} (hm : g ∈ x.gs) : findG x.gs g.n = some g := findG_of hg.one hm
theorem ap_free (hg : x.Good i) (h : Ap x N a s fr rl bg) (hk : e.kind = 3) (h0 : (seeS ha hs x e i).1 = 0) : (e.num = N → fr < 0) ∧ Ap (seeS ha hs x e i).2 N a s (if e.num = N then (i : Int) else fr) rl bg := by
  unfold seeS at *
  rw [if_neg (by omega), if_pos hk] at *
  unfold freeS at *
  cases hf : findG x.gs e.num with
  | none => rw [hf] at h0; cases h0
  | some g0 =>
    rw [hf] at h0
    dsimp only at h0 ⊢
    obtain ⟨hm0, hn0⟩ := findG_mem hf
    by_cases h2 : isB x e = false ∨ g0.rests = true
    · rw [if_pos h2] at h0; cases h0
    · rw [if_neg h2] at *
      have hr0 : g0.rests = false := by cases hh : g0.rests <;> simp_all
      have key : e.num = N → rl < 0 ∧ fr < 0 := fun hN => by
        rcases Int.lt_or_le rl 0 with hr | hr
        · obtain ⟨g, hm, hgn, _, _, hre, _⟩ := h.there hr
          have := findG_one hg hm
          rw [hgn, ← hN, hf] at this
          cases this
          refine ⟨hr, ?_⟩
          rcases Int.lt_or_le fr 0 with hh | hh
          · exact hh
          · rw [hre.2 hh] at hr0; cases hr0
        · exact absurd (hn0.trans hN) (h.gone hr g0 hm0)
      refine ⟨fun hN => (key hN).2, ⟨h.n, h.one, by split <;> first | omega | exact h.b1, h.b2, h.b3, fun hr => ?_, fun hr g hm => ?_⟩⟩
      · obtain ⟨g, hm, hgn, hga, hgs, hre, hba⟩ := h.there hr
        by_cases hN : e.num = N
        · refine ⟨_, List.mem_map.2 ⟨g, hm, rfl⟩, ?_⟩
          rw [if_pos (by omega), if_pos hN]
          refine ⟨hgn, hga, hgs, by simp, fun hb => ?_⟩
          have h1 := (key hN).2
          have h2 := (hba hb).2
          omega
        · refine ⟨_, List.mem_map.2 ⟨g, hm, rfl⟩, ?_⟩
          rw [if_neg (by omega), if_neg hN]
          exact ⟨hgn, hga, hgs, hre, hba⟩
      · obtain ⟨g1, hm1, rfl⟩ := List.mem_map.1 hm
        have := h.gone hr g1 hm1
        split <;> exact this
theorem ap_begin (h : Ap x N a s fr rl bg) (hk : e.kind = 6) (h0 : (seeS ha hs x e i).1 = 0) : Ap (seeS ha hs x e i).2 N a s fr rl (if 0 ≤ fr then (i : Int) else bg) := by
  unfold seeS at *
  rw [if_neg (by omega), if_neg (by omega), if_pos hk] at *
  unfold beginS at *
  split at h0
  · cases h0
  · rename_i h2
    rw [if_neg h2]
    refine ⟨h.n, h.one, h.b1, h.b2, by split <;> first | omega | exact h.b3, fun hr => ?_, fun hr g hm => ?_⟩
    · obtain ⟨g, hm, hgn, hga, hgs, hre, hba⟩ := h.there hr
      refine ⟨_, List.mem_map.2 ⟨g, hm, rfl⟩, hgn, hga, hgs, hre, fun hb => ?_⟩
      have := hre.1 hb
      rw [if_pos this]
      exact ⟨by omega, this⟩
    · obtain ⟨g1, hm1, rfl⟩ := List.mem_map.1 hm
      exact h.gone hr g1 hm1
theorem ap_release (hg : x.Good i) (h : Ap x N a s fr rl bg) (hk : e.kind = 4) (h0 : (seeS ha hs x e i).1 = 0) : (e.num = N → 0 ≤ fr ∧ rl < 0 ∧ 0 ≤ bg) ∧ Ap (seeS ha hs x e i).2 N a s fr (if e.num = N then (i : Int) else rl) bg := by
  unfold seeS at *
  rw [if_neg (by omega), if_neg (by omega), if_neg (by omega), if_pos hk] at *
  unfold releaseS at *
  cases hf : findG x.gs e.num with
  | none => rw [hf] at h0; cases h0
  | some g0 =>
    rw [hf] at h0
    dsimp only at h0 ⊢
    obtain ⟨hm0, hn0⟩ := findG_mem hf
    by_cases h2 : x.sw = false ∨ isB x e = false ∨ g0.batch = false
    · rw [if_pos h2] at h0; cases h0
    · rw [if_neg h2] at *
      have hb0 : g0.batch = true := by cases hh : g0.batch <;> simp_all
      refine ⟨fun hN => ?_, ⟨h.n, h.one, h.b1, by split <;> first | omega | exact h.b2, h.b3, fun hr => ?_, fun hr g hm => ?_⟩⟩
      · rcases Int.lt_or_le rl 0 with hr | hr
        · obtain ⟨g, hm, hgn, _, _, hre, hba⟩ := h.there hr
          have := findG_one hg hm
          rw [hgn, ← hN, hf] at this
          cases this
          have := hba hb0
          exact ⟨this.2, hr, this.1⟩
        · exact absurd (hn0.trans hN) (h.gone hr g0 hm0)
      · by_cases hN : e.num = N
        · rw [if_pos hN] at hr; omega
        · rw [if_neg hN] at hr
          obtain ⟨g, hm, hgn, r⟩ := h.there hr
          exact ⟨g, List.mem_filter.2 ⟨hm, by simp; omega⟩, hgn, r⟩
      · obtain ⟨hm1, hm2⟩ := List.mem_filter.1 hm
        by_cases hN : e.num = N
        · simp at hm2; omega
        · rw [if_neg hN] at hr
          exact h.gone hr g hm1
theorem ap_other (h : Ap x N a s fr rl bg) (h2 : e.kind ≠ 2) (h3 : e.kind ≠ 3) (h6 : e.kind ≠ 6) (h4 : e.kind ≠ 4) : Ap (seeS ha hs x e i).2 N a s fr rl bg := by
  have key : ((seeS ha hs x e i).2).gs = x.gs ∧ ((seeS ha hs x e i).2).num = x.num := by
    unfold seeS
    rw [if_neg h2, if_neg h3, if_neg h6, if_neg h4]
    split
    · unfold endS; split
      · exact ⟨rfl, rfl⟩
      · split
        · exact ⟨rfl, rfl⟩
        · split <;> exact ⟨rfl, rfl⟩
    · split
      · unfold askS; split <;> exact ⟨rfl, rfl⟩
      · split
        · unfold drainS; split
          · exact ⟨rfl, rfl⟩
          · split <;> exact ⟨rfl, rfl⟩
        · exact ⟨rfl, rfl⟩
  exact ⟨by rw [key.2]; exact h.n, h.one, h.b1, h.b2, h.b3, by rw [key.1]; exact h.there, by rw [key.1]; exact h.gone⟩
/-! ### drains -/
def Dr (x : Sx) (H : Int) (t : Nat) (ends : Nat) : Prop := ∃ k ∈ x.ks, k.h = H ∧ k.t = t ∧ k.e = ends
theorem findA_of {l : List Ak} (h : (l.map (·.h)).Nodup) {g : Ak} (hg : g ∈ l) : findA l g.h = some g := by
  unfold findA
  induction l with
  | nil => cases hg
  | cons a l ih =>
    simp only [List.map_cons, List.nodup_cons, List.mem_map, not_exists, not_and] at h
    rcases List.mem_cons.1 hg with rfl | hg
    · simp
    · rw [List.find?_cons_of_neg (by simpa using fun e => h.1 g hg e.symm)]
      exact ih h.2 hg
theorem dr_start {x : Sx} {e : Ev} {i : Nat} (hk : e.kind = 11) (h0 : (seeS ha hs x e i).1 = 0) : Dr (seeS ha hs x e i).2 e.hart i 0 := by
  unfold seeS at *
  rw [if_neg (by omega), if_neg (by omega), if_neg (by omega), if_neg (by omega), if_neg (by omega), if_pos hk] at *
  unfold askS at *
  cases hf : findA x.ks e.hart with
  | some k => rw [hf] at h0; cases h0
  | none => exact ⟨(⟨e.hart, i, 0⟩ : Ak), List.mem_append_right _ (by simp), rfl, rfl, rfl⟩
variable {H : Int} {t ends : Nat}
theorem dr_end (h : Dr x H t ends) (hk : e.kind = 7) (h0 : (seeS ha hs x e i).1 = 0) : ends < 2 ∧ Dr (seeS ha hs x e i).2 H t (ends + 1) := by
  unfold seeS at *
  rw [if_neg (by omega), if_neg (by omega), if_neg (by omega), if_neg (by omega), if_pos hk] at *
  unfold endS at *
  split at h0
  · cases h0
  · rename_i h1
    rw [if_neg h1]
    split at h0
    · cases h0
    · rename_i h2
      rw [if_neg h2]
      split at h0
      · cases h0
      · rename_i h3
        rw [if_neg h3]
        obtain ⟨k, hm, rfl, rfl, rfl⟩ := h
        simp only [List.any_eq_true, decide_eq_true_eq, not_exists, not_and] at h3
        exact ⟨by have := h3 k hm; omega, _, List.mem_map.2 ⟨k, hm, rfl⟩, rfl, rfl, rfl⟩
theorem dr_ask (hg : x.Good i) (h : Dr x H t ends) (hk : e.kind = 11) (h0 : (seeS ha hs x e i).1 = 0) : e.hart ≠ H ∧ Dr (seeS ha hs x e i).2 H t ends := by
  unfold seeS at *
  rw [if_neg (by omega), if_neg (by omega), if_neg (by omega), if_neg (by omega), if_neg (by omega), if_pos hk] at *
  unfold askS at *
  cases hf : findA x.ks e.hart with
  | some k => rw [hf] at h0; cases h0
  | none =>
    obtain ⟨k, hm, rfl, rfl, rfl⟩ := h
    exact ⟨fun hh => findA_none hf k hm hh.symm, k, List.mem_append_left _ hm, rfl, rfl, rfl⟩
theorem dr_drain (hg : x.Good i) (h : Dr x H t ends) (hk : e.kind = 10) (h0 : (seeS ha hs x e i).1 = 0) : (e.hart = H → ∀ g ∈ x.gs, g.rests = true → t ≤ g.freed) ∧ (e.hart ≠ H → Dr (seeS ha hs x e i).2 H t ends) := by
  unfold seeS at *
  rw [if_neg (by omega), if_neg (by omega), if_neg (by omega), if_neg (by omega), if_neg (by omega), if_neg (by omega), if_pos hk] at *
  unfold drainS at *
  cases hf : findA x.ks e.hart with
  | none => rw [hf] at h0; cases h0
  | some k0 =>
    rw [hf] at h0
    dsimp only at h0 ⊢
    split at h0
    · cases h0
    · rename_i h2
      rw [if_neg h2]
      obtain ⟨k, hm, rfl, rfl, rfl⟩ := h
      refine ⟨fun hh g hgm hgr => ?_, fun hh => ⟨k, List.mem_filter.2 ⟨hm, by simpa using fun e => hh e.symm⟩, rfl, rfl, rfl⟩⟩
      have := findA_of hg.aone hm
      rw [← hh, hf] at this
      cases this
      simp only [List.any_eq_true, Bool.and_eq_true, decide_eq_true_eq, not_exists, not_and] at h2
      have := h2 g hgm hgr
      omega
theorem dr_other (h : Dr x H t ends) (h7 : e.kind ≠ 7) (h11 : e.kind ≠ 11) (h10 : e.kind ≠ 10) : Dr (seeS ha hs x e i).2 H t ends := by
  have key : ((seeS ha hs x e i).2).ks = x.ks := by
    unfold seeS
    split
    · unfold grantS; split
      · rfl
      · split
        · rfl
        · split <;> rfl
    · split
      · unfold freeS; split
        · rfl
        · split <;> rfl
      · split
        · unfold beginS; split <;> rfl
        · split
          · unfold releaseS; split
            · rfl
            · split <;> rfl
          · first | rfl | rw [if_neg h7, if_neg h11, if_neg h10]
  unfold Dr
  rw [key]
  exact h
/-- what was freed is released, or rests still -/
def Rs (x : Sx) (f M : Nat) : Prop := ∃ g ∈ x.gs, g.n = M ∧ g.rests = true ∧ g.freed = f
theorem rs_start (hk : e.kind = 3) (h0 : (seeS ha hs x e i).1 = 0) : Rs (seeS ha hs x e i).2 i e.num := by
  unfold seeS at *
  rw [if_neg (by omega), if_pos hk] at *
  unfold freeS at *
  cases hf : findG x.gs e.num with
  | none => rw [hf] at h0; cases h0
  | some g0 =>
    rw [hf] at h0
    dsimp only at h0 ⊢
    obtain ⟨hm0, hn0⟩ := findG_mem hf
    split at h0
    · cases h0
    · rename_i h2
      rw [if_neg h2]
      exact ⟨_, List.mem_map.2 ⟨g0, hm0, rfl⟩, by rw [if_pos hn0]; exact ⟨hn0, rfl, rfl⟩⟩
theorem rs_step {f M : Nat} (hg : x.Good i) (h : Rs x f M) (hno : ¬ (e.kind = 4 ∧ e.num = M)) (h0 : (seeS ha hs x e i).1 = 0) : Rs (seeS ha hs x e i).2 f M := by
  obtain ⟨g, hm, rfl, hr, rfl⟩ := h
  unfold seeS at *
  by_cases h2 : e.kind = 2
  · rw [if_pos h2] at *
    unfold grantS at *
    split at h0
    · cases h0
    · rename_i a1
      rw [if_neg a1]
      split at h0
      · cases h0
      · rename_i a2
        rw [if_neg a2]
        split at h0
        · cases h0
        · rename_i a3
          rw [if_neg a3]
          exact ⟨g, List.mem_append_left _ hm, rfl, hr, rfl⟩
  · rw [if_neg h2] at *
    by_cases h3 : e.kind = 3
    · rw [if_pos h3] at *
      unfold freeS at *
      cases hf : findG x.gs e.num with
      | none => rw [hf] at h0; cases h0
      | some g0 =>
        rw [hf] at h0
        dsimp only at h0 ⊢
        split at h0
        · cases h0
        · rename_i a2
          rw [if_neg a2]
          have hne : g.n ≠ e.num := fun hh => by
            have := findG_one hg hm
            rw [hh, hf] at this
            cases this
            exact a2 (.inr hr)
          exact ⟨_, List.mem_map.2 ⟨g, hm, rfl⟩, by rw [if_neg hne]; exact ⟨rfl, hr, rfl⟩⟩
    · rw [if_neg h3] at *
      by_cases h6 : e.kind = 6
      · rw [if_pos h6] at *
        unfold beginS at *
        split at h0
        · cases h0
        · rename_i a2
          rw [if_neg a2]
          exact ⟨_, List.mem_map.2 ⟨g, hm, rfl⟩, rfl, hr, rfl⟩
      · rw [if_neg h6] at *
        by_cases h4 : e.kind = 4
        · rw [if_pos h4] at *
          unfold releaseS at *
          cases hf : findG x.gs e.num with
          | none => rw [hf] at h0; cases h0
          | some g0 =>
            rw [hf] at h0
            dsimp only at h0 ⊢
            split at h0
            · cases h0
            · rename_i a2
              rw [if_neg a2]
              have : e.num ≠ g.n := fun hh => hno ⟨h4, hh⟩
              exact ⟨g, List.mem_filter.2 ⟨hm, by simp; omega⟩, rfl, hr, rfl⟩
        · rw [if_neg h4] at *
          split
          · unfold endS; split
            · exact ⟨g, hm, rfl, hr, rfl⟩
            · split
              · exact ⟨g, hm, rfl, hr, rfl⟩
              · split <;> exact ⟨g, hm, rfl, hr, rfl⟩
          · split
            · unfold askS; split <;> exact ⟨g, hm, rfl, hr, rfl⟩
            · split
              · unfold drainS; split
                · exact ⟨g, hm, rfl, hr, rfl⟩
                · split <;> exact ⟨g, hm, rfl, hr, rfl⟩
              · exact ⟨g, hm, rfl, hr, rfl⟩
end
theorem rs_all {ha hs : Nat} {l : List Ev} (hok : ∀ e ∈ l, e.Ok) (h : histF ha hs l 0 sx0 = []) {f : Nat} {e : Ev} (hf : l[f]? = some e) (hk : e.kind = 3) : ∀ k, f < k → k ≤ l.length → (∀ r e', f ≤ r → r < k → l[r]? = some e' → ¬ (e'.kind = 4 ∧ e'.num = e.num)) → Rs (histX ha hs (l.take k) 0 sx0) f e.num := by
  intro k
  induction k with
  | zero => intro h1; omega
  | succ k ih =>
    intro h1 h2 h3
    have hgood : ∀ k, k ≤ l.length → Sx.Good (histX ha hs (l.take k) 0 sx0) k := fun k hk => by
      have := good_hist (ha := ha) (hs := hs) (l.take k) 0 sx0 good0 (fun e he => hok e (List.mem_of_mem_take he))
      rw [List.length_take, Nat.min_eq_left hk, Nat.zero_add] at this
      exact this
    obtain ⟨e', he'⟩ : ∃ e', l[k]? = some e' := ⟨_, List.getElem?_eq_getElem (by omega)⟩
    have h0 := no_fault h k e' he'
    rw [Nat.zero_add] at h0
    rw [hist_take he']
    by_cases hfk : f = k
    · subst hfk
      rw [hf] at he'
      cases he'
      exact rs_start hk h0
    · exact rs_step (hgood k (by omega)) (ih (by omega) (by omega) (fun r e' a b c => h3 r e' a (by omega) c)) (h3 k e' (by omega) (by omega) he') h0
theorem good_at {ha hs : Nat} {l : List Ev} (hok : ∀ e ∈ l, e.Ok) (k : Nat) (hk : k ≤ l.length) : Sx.Good (histX ha hs (l.take k) 0 sx0) k := by
  have := good_hist (ha := ha) (hs := hs) (l.take k) 0 sx0 good0 (fun e he => hok e (List.mem_of_mem_take he))
  rw [List.length_take, Nat.min_eq_left hk, Nat.zero_add] at this
  exact this
end Go.Proofs.Ytkbdoiefgmbikaa
