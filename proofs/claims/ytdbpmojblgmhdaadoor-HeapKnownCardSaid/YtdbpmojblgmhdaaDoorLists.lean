/-
  Small words for lists in memory: a slice value that owns its cells (the kit's ownsRow), as it abides frames; lists of truths. No condition.
-/

import Derived.Test.YtdbpmojblgmhdaaDoorBase
import Derived.Maps.AppendAt
import Derived.WalkSpells
import Derived.Lib.SliceRun
set_option linter.unusedVariables false
namespace Go.Proofs.YtdbpmojblgmhdaaDoor
open Go.ChangeShapes Go.WideShapes Go.ChangeAt Go.RowKit
section
variable {w w' : World} {b b' : Nat} {e : TypeId} {size : Nat} {v : Value} {n : Nat} {xs : List Value} {S : List Nat}
theorem own_fr (h : w.ownsRow b e size v n xs) (f : Fr S w w') (hS : ∀ g, v.ownBlock = some g → g ∉ S) : w'.ownsRow b e size v n xs := by
  refine ⟨h.1, ?_⟩
  rcases h.2 with hn | ⟨g, cap, cur, rfl, hb, hgg, rest⟩
  · exact .inl hn
  · exact .inr ⟨g, cap, cur, rfl, hb, (f.keep g (Array.getElem?_eq_some_iff.1 hgg).1 (hS g rfl)).trans hgg, rest⟩
theorem own_fr0 (h : w.ownsRow b e size v n xs) (f : Fr [] w w') : w'.ownsRow b e size v n xs := own_fr h f (by simp)
theorem own_heap (h : w.ownsRow b e size v n xs) (hv : w'.heap = w.heap) : w'.ownsRow b e size v n xs := by
  unfold World.ownsRow at *; rw [hv]; exact h
theorem own_base (h : w.ownsRow b e size v n xs) (hb : b' ≤ b) : w.ownsRow b' e size v n xs := by
  refine ⟨h.1, ?_⟩
  rcases h.2 with hn | ⟨g, cap, cur, rfl, hbg, rest⟩
  · exact .inl hn
  · exact .inr ⟨g, cap, cur, rfl, by omega, rest⟩
theorem own_slice (h : w.ownsRow b e size v n xs) : ∃ a c, v = .slice a n c ∧ n ≤ c := by
  rcases h.2 with ⟨rfl, rfl⟩ | ⟨g, cap, cur, rfl, hbg, h1, h2, _⟩
  · exact ⟨_, _, rfl, Nat.le_refl _⟩
  · exact ⟨_, _, rfl, h2⟩
theorem own_len (h : w.ownsRow b e size v n xs) : n ≤ maxLen := by
  rcases h.2 with ⟨rfl, rfl⟩ | ⟨g, cap, cur, rfl, hbg, h1, h2, h3, _⟩
  · unfold maxLen; omega
  · omega
/-- A block of another type is not the list's. -/
theorem own_ne (h : w.ownsRow b e size v n xs) {q : Nat} {t : TypeId} {cs : Array Value} (hq : At w q t cs) (ht : t ≠ e) : ∀ g, v.ownBlock = some g → g ≠ q := by
  rintro g hg rfl
  rcases h.2 with ⟨rfl, rfl⟩ | ⟨g', cap, cur, rfl, hbg, h1, _⟩
  · simp [Value.ownBlock] at hg
  · simp [Value.ownBlock] at hg
    subst hg
    exact ht (hq.inj h1).1
theorem own_toList (h : w.ownsRow b e size v n xs) {q : Nat} {t : TypeId} {cs : Array Value} (hq : At w q t cs) (ht : t ≠ e) : q ∉ v.ownBlock.toList := by
  intro hm
  cases hv : v.ownBlock with
  | none => rw [hv] at hm; simp at hm
  | some g =>
    rw [hv] at hm
    simp at hm
    exact own_ne h hq ht g hv hm.symm
/-- The cells of a list that is not empty. -/
theorem own_open (h : w.ownsRow b e 1 v n xs) (hn : 0 < n) : ∃ g c, v = .slice (some ⟨g, 0, none⟩) n c ∧ n ≤ c ∧ b ≤ g ∧ g < w.heap.size ∧ (∀ k, k < n → w.cell? ⟨g, k, none⟩ = xs[k]?) ∧ ∀ k, w.frozen? ⟨g, k, none⟩ = false := by
  rcases h.2 with ⟨rfl, rfl⟩ | ⟨g, cap, cur, rfl, hbg, h1, h2, h3, h4, h5⟩
  · omega
  · have ha : At w g e cur := h1
    refine ⟨g, cap, rfl, h2, hbg, ha.lt, fun k hk => ?_, fun k => ha.froz k⟩
    rw [ha.cell k, ← h5, List.getElem?_take, if_pos (by omega)]
    simp
theorem own_set (h : w.ownsRow b e 1 v n xs) {g c : Nat} (hv : v = .slice (some ⟨g, 0, none⟩) n c) (k : Nat) (u : Value) : (w.setCell ⟨g, k, none⟩ u).ownsRow b e 1 v n (xs.set k u) := by
  subst hv
  rcases h.2 with ⟨h0, _⟩ | ⟨g', cap, cur, h0, hbg, h1, h2, h3, h4, h5⟩
  · cases h0
  · injection h0 with ha _ hc
    injection ha with ha
    injection ha with ha
    subst ha hc
    refine ⟨by rw [List.length_set]; exact h.1, .inr ⟨g, c, cur.setIfInBounds k u, rfl, hbg, At.set h1 k u, h2, h3, by simpa using h4, ?_⟩⟩
    rw [← h5]
    simp [List.take_set]
end
/-- A frame across an append to a list that lies beyond. -/
theorem Fr.app {S : List Nat} {w W W' : World} {v : Value} {B : Nat} {e : TypeId} {size n : Nat} {xs : List Value} (f : Fr S w W) (hg : W.grownBy W' v.ownBlock) (h : W.ownsRow B e size v n xs) (hB : w.heap.size ≤ B) : Fr S w W' :=
  f.trans (Fr.grown hg) (fun k hk => by
    cases hv : v.ownBlock with
    | none => rw [hv] at hk; simp at hk
    | some r => rw [hv] at hk; simp at hk; subst hk; exact .inr (Nat.le_trans hB (h.lt _ hv).1))
/-- A literal slice of structs, by a closed fact on the instruction. -/
theorem wpList_buildSlice {P : Program} {ops : Array Oper} {rest : List Oper} {o : Oper} {a : Act} {Q : Exit → Act → World → Prop} {w : World} (hgd : o.guard = none) (t len : Nat) (parts : Array (Nat × Operand)) (lit : Array (Nat × Value)) (v : Value) (w' : World)
    (hr : (Instr.buildSlice t len lit).run P w = .ok v w') (ho : o.op = .buildSlice t len parts) (hp : (parts.map fun (i, x) => (i, a.eval x)) = lit) (h : wpList P ops Q rest (a.put o.dst v) w') : wpList P ops Q (o :: rest) a w := by
  refine wpList_plain hgd fun K hK => ?_
  unfold Oper.wp execOp
  simp only [ho, hp, Sem.run_bind, hr, Result.andThen_ok, Sem.run_pure]
  exact hK _ _ h
theorem wp_buildSlice {P : Program} {o : Oper} {a : Act} {K : Act → World → Prop} {Q : Exit → Act → World → Prop} {w : World} (t len : Nat) (parts : Array (Nat × Operand)) (lit : Array (Nat × Value)) (v : Value) (w' : World)
    (hr : (Instr.buildSlice t len lit).run P w = .ok v w') (ho : o.op = .buildSlice t len parts) (hp : (parts.map fun (i, x) => (i, a.eval x)) = lit) (h : K (a.put o.dst v) w') : o.wp P a w K Q := by
  unfold Oper.wp execOp
  simp only [ho, hp, Sem.run_bind, hr, Result.andThen_ok, Sem.run_pure]
  exact h
/-! ### lists of truths -/
def bls (n : Nat) (f : Nat → Bool) : List Value := (List.range n).map fun k => .bool (f k)
theorem bls_len (n : Nat) (f : Nat → Bool) : (bls n f).length = n := by simp [bls]
theorem bls_get (n : Nat) (f : Nat → Bool) (k : Nat) (h : k < n) : (bls n f)[k]? = some (.bool (f k)) := by simp [bls, List.getElem?_range h]
theorem bls_snoc (n : Nat) (f : Nat → Bool) : bls n f ++ [.bool (f n)] = bls (n + 1) f := by simp [bls, List.range_succ]
theorem bls_congr (n : Nat) (f f' : Nat → Bool) (h : ∀ k, k < n → f k = f' k) : bls n f = bls n f' := by
  unfold bls
  refine List.map_congr_left fun k hk => ?_
  rw [h k (by simpa using hk)]
theorem bls_one (n : Nat) (f : Nat → Bool) : ∀ u ∈ bls n f, u.oneCell' = true := fun u hu => by
  unfold bls at hu
  obtain ⟨k, _, rfl⟩ := List.mem_map.1 hu
  rfl
/-- An array of truths, by value. -/
def batr (n : Nat) (f : Nat → Bool) : Array Value := (bls n f).toArray
theorem batr_get (n : Nat) (f : Nat → Bool) (k : Nat) (h : k < n) : (batr n f)[k]? = some (.bool (f k)) := by
  unfold batr; rw [List.getElem?_toArray]; exact bls_get n f k h
theorem batr_set (n : Nat) (f : Nat → Bool) (i : Nat) (b : Bool) : (batr n f).setIfInBounds i (.bool b) = batr n (fun j => if j = i then b else f j) := by
  refine Array.ext_getElem? fun j => ?_
  rw [Array.getElem?_setIfInBounds]
  have hs : ∀ g, (batr n g).size = n := fun g => by simp [batr, bls_len]
  by_cases hj : j < n
  · rw [batr_get _ _ _ hj, batr_get _ _ _ hj, hs]
    by_cases e : i = j
    · subst e; simp [hj]
    · rw [if_neg e, if_neg (fun h => e h.symm)]
  · have h1 : ∀ g, (batr n g)[j]? = none := fun g => Array.getElem?_eq_none (by rw [hs]; omega)
    rw [h1, h1, hs]
    by_cases e : i = j
    · subst e; simp [hj]
    · rw [if_neg e]
end Go.Proofs.YtdbpmojblgmhdaaDoor
