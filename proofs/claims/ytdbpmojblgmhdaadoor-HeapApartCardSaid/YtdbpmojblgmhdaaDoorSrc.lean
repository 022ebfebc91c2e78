/-
  append of what lies somewhere, or is nil; rows of elements of many cells, opened. Condition: the sizes that the laws name.
-/

import Derived.Test.YtdbpmojblgmhdaaDoorLists
import Derived.Laws.AppendOwnNone
set_option linter.unusedVariables false
namespace Go.Proofs.YtdbpmojblgmhdaaDoor
open Go.ChangeShapes Go.WideShapes Go.ChangeAt Go.RowKit
/-- Where the cells of what is appended lie, if there are any. -/
def SrcAt (w : World) (sv : Value) (m : Nat) (news : List Value) : Prop :=
  ∃ a c, sv = .slice a m c ∧ ((a = none ∧ c = 0 ∧ m = 0 ∧ news = []) ∨ ∃ ad, a = some ad ∧ ∀ j u, news[j]? = some u → w.cell? (ad.add j) = some u)
section
variable {w w' : World} {sv : Value} {m : Nat} {news : List Value} {b : Nat} {e : TypeId} {size n : Nat} {v : Value} {xs : List Value}
theorem SrcAt.fr {S : List Nat} (h : SrcAt w sv m news) (f : Fr S w w') (hS : ∀ g, sv.ownBlock = some g → g ∉ S) : SrcAt w' sv m news := by
  obtain ⟨a, c, rfl, h⟩ := h
  refine ⟨a, c, rfl, ?_⟩
  rcases h with h | ⟨ad, rfl, h⟩
  · exact .inl h
  · refine .inr ⟨ad, rfl, fun j u hj => ?_⟩
    have h0 := h j u hj
    exact (f.cell (a := ad.add j) (by exact lt_of_cell h0) (by
      intro hm
      refine hS ad.block (by simp [Value.ownBlock]) ?_
      have e : (ad.add j).block = ad.block := by unfold Addr.add; split <;> rfl
      rw [← e]; exact hm)).trans h0
theorem SrcAt.fr0 (h : SrcAt w sv m news) (f : Fr [] w w') : SrcAt w' sv m news := h.fr f (by simp)
theorem SrcAt.nil (w : World) : SrcAt w (.slice none 0 0) 0 [] := ⟨_, _, rfl, .inl ⟨rfl, rfl, rfl, rfl⟩⟩
theorem SrcAt.mk {a : Addr} {c : Nat} (h : ∀ j u, news[j]? = some u → w.cell? (a.add j) = some u) : SrcAt w (.slice (some a) m c) m news := ⟨_, _, rfl, .inr ⟨_, rfl, h⟩⟩
/-- The cells of a row that is owned, whatever its elements' width. -/
theorem own_openS (h : w.ownsRow b e size v n xs) (hn : 0 < n) : ∃ g c, v = .slice (some ⟨g, 0, none⟩) n c ∧ n ≤ c ∧ b ≤ g ∧ g < w.heap.size ∧ (∀ k, k < n * size → w.cell? ⟨g, k, none⟩ = xs[k]?) ∧ (∀ k, w.frozen? ⟨g, k, none⟩ = false) := by
  rcases h.2 with ⟨rfl, rfl⟩ | ⟨g, cap, cur, rfl, hbg, h1, h2, h3, h4, h5⟩
  · have := h.1; simp at this; omega
  · have ha : At w g e cur := h1
    refine ⟨g, cap, rfl, h2, hbg, ha.lt, fun k hk => ?_, fun k => ha.froz k⟩
    rw [ha.cell k, ← h5, List.getElem?_take, if_pos (by omega)]
    simp
theorem SrcAt.own (h : w.ownsRow b e size v n xs) : SrcAt w v n xs := by
  rcases h.2 with ⟨rfl, rfl⟩ | ⟨g, cap, cur, rfl, hbg, h1, h2, h3, h4, h5⟩
  · have := h.1
    exact ⟨none, 0, rfl, .inl ⟨rfl, rfl, rfl, List.length_eq_zero_iff.1 (by simpa using this)⟩⟩
  · have ha : At w g e cur := h1
    refine SrcAt.mk fun j u hj => ?_
    rw [Go.WideShapes.add_plain, Nat.zero_add, ha.cell, ← Array.getElem?_toList]
    have : ((cur.toList).take (n * size))[j]? = some u := by rw [h5]; exact hj
    rw [List.getElem?_take] at this
    split at this
    · exact this
    · cases this
theorem SrcAt.len (h : SrcAt w sv m news) : ∃ a c, sv = .slice a m c := by obtain ⟨a, c, h, _⟩ := h; exact ⟨a, c, h⟩
end
theorem wpList_append_src {P : Program} {w : World} {ops : Array Oper} {rest : List Oper} {o : Oper} {a : Act} {Q : Exit → Act → World → Prop} (hgd : o.guard = none) (s x : Operand) (t : TypeId)
    (ho : o.op = .call { callee := .builtin .append, args := #[s, x], argTypes := #[t, t] })
    (base : Nat) (e : TypeId) (i : TypeInfo) (z : Value) (size bytes : Nat) (ht : P.underlying t = some (.slice e)) (hi : P.info? e = some i) (hz : i.zero = some z)
    (hsize : i.size = size) (hby : i.bytes = bytes) (hzs : z.cells.size = size) (hsz : 0 < size)
    (v : Value) (n : Nat) (xs : List Value) (hs : a.eval s = v) (hown : w.ownsRow base e size v n xs)
    (sv : Value) (m : Nat) (news : List Value) (hx : a.eval x = sv) (hsrc : SrcAt w sv m news) (hl : news.length = m * size) (h1 : ∀ u ∈ news, u.oneCell' = true)
    (h63 : n + m ≤ maxLen) (hbytes : (n + m) * bytes ≤ 140737488355328) (hbase : base ≤ w.heap.size)
    (h : ∀ v' w', w'.ownsRow base e size v' (n + m) (xs ++ news) → w.grownBy w' v.ownBlock → (v'.ownBlock = v.ownBlock ∨ v'.ownBlock = some w.heap.size) → wpList P ops Q rest (a.put o.dst v') w') :
    wpList P ops Q (o :: rest) a w := by
  obtain ⟨aa, c, rfl, hsrc⟩ := hsrc
  rcases hsrc with ⟨rfl, rfl, rfl, rfl⟩ | ⟨ad, rfl, hc⟩
  · refine wpList_append_own_none hgd s x t ho base e i size ht hi v n xs hs hown hx ?_
    exact h v w (by simpa using hown) ⟨rfl, rfl, rfl, Nat.le_refl _, fun _ _ _ => rfl⟩ (.inl rfl)
  · exact wpList_append_own_at w hgd s x t ho base e i z size bytes ht hi hz hsize hby hzs hsz v n xs hs hown ad m c news hx hl hc h1 h63 hbytes hbase (fun v' w' g1 g2 _ g4 => h v' w' g1 g2 g4)
/-- Rows of elements of two types do not meet. -/
theorem own_apart {w : World} {b b' : Nat} {e e' : TypeId} {size size' n n' : Nat} {v v' : Value} {xs xs' : List Value} (h : w.ownsRow b e size v n xs) (h' : w.ownsRow b' e' size' v' n' xs') (he : e ≠ e') : ∀ g, v.ownBlock = some g → g ∉ v'.ownBlock.toList := by
  intro g hg
  rcases h.2 with ⟨rfl, rfl⟩ | ⟨g1, cap, cur, rfl, _, h1, _⟩
  · simp [Value.ownBlock] at hg
  · simp [Value.ownBlock] at hg
    subst hg
    exact own_toList h' (show At w g1 e cur from h1) he
/-! ### s[:k], s[k:] -/
section
variable {P : Program} {t e : TypeId} {size : Nat}
theorem run_upto (ht : P.underlying t = some (.slice e)) (hs : (P.info? e).map (fun i => i.size) = some size) (a : Option Addr) (n c k : Nat) (hk : k ≤ c) (W : World) :
    (Instr.slice t (.slice a n c) none (some (.int .i64 k)) none).run P W = .ok (.slice a k c) W := by
  have he : P.elem t = e := by simp [Program.elem, ht]
  rw [run_slice_h W t a n c (by rw [he]; exact ht) .i64 k (by omega) (by omega), he]
  cases hq : P.info? e with
  | none => rw [hq] at hs; simp at hs
  | some i =>
    simp [sizeOf, typeInfo, hq, sliced]
    cases a <;> simp [Addr.add]
theorem run_from (ht : P.underlying t = some (.slice e)) (hs : (P.info? e).map (fun i => i.size) = some size) (a : Option Addr) (n c k : Nat) (hk : k ≤ n) (W : World) :
    (Instr.slice t (.slice a n c) (some (.int .i64 k)) none none).run P W = .ok (.slice (if c = k then a else a.map (·.add (k * size))) (n - k) (c - k)) W := by
  have he : P.elem t = e := by simp [Program.elem, ht]
  rw [run_slice_l W t a n c (by rw [he]; exact ht) .i64 k (by omega) (by omega), he]
  cases hq : P.info? e with
  | none => rw [hq] at hs; simp at hs
  | some i =>
    have hi : i.size = size := by rw [hq] at hs; simpa using hs
    simp [sizeOf, typeInfo, hq, sliced, hi]
theorem slice_upto {w : World} {b n : Nat} {v : Value} {xs : List Value} (ht : P.underlying t = some (.slice e)) (hs : (P.info? e).map (fun i => i.size) = some size) (h : w.ownsRow b e size v n xs) (k : Nat) (hk : k ≤ n) :
    ∃ sv, (∀ W, (Instr.slice t v none (some (.int .i64 k)) none).run P W = .ok sv W) ∧ SrcAt w sv k (xs.take (k * size)) := by
  have hl := h.1
  rcases h.2 with ⟨rfl, rfl⟩ | ⟨g, cap, cur, rfl, hbg, h1, h2, h3, h4, h5⟩
  · obtain rfl : k = 0 := by omega
    refine ⟨_, fun W => run_upto ht hs _ _ _ _ (Nat.le_refl _) W, ?_⟩
    rw [Nat.zero_mul, List.take_zero]
    exact SrcAt.nil w
  · have ha : At w g e cur := h1
    refine ⟨_, fun W => run_upto ht hs _ _ _ _ (by omega) W, SrcAt.mk fun j u hj => ?_⟩
    rw [Go.WideShapes.add_plain, Nat.zero_add, ha.cell, ← Array.getElem?_toList]
    rw [List.getElem?_take] at hj
    split at hj
    · have : ((cur.toList).take (n * size))[j]? = some u := by rw [h5]; exact hj
      rw [List.getElem?_take] at this
      split at this
      · exact this
      · cases this
    · cases hj
theorem slice_from {w : World} {b n : Nat} {v : Value} {xs : List Value} (ht : P.underlying t = some (.slice e)) (hs : (P.info? e).map (fun i => i.size) = some size) (h : w.ownsRow b e size v n xs) (k : Nat) (hk : k ≤ n) :
    ∃ sv, (∀ W, (Instr.slice t v (some (.int .i64 k)) none none).run P W = .ok sv W) ∧ SrcAt w sv (n - k) (xs.drop (k * size)) := by
  have hl := h.1
  rcases h.2 with ⟨rfl, rfl⟩ | ⟨g, cap, cur, rfl, hbg, h1, h2, h3, h4, h5⟩
  · obtain rfl : k = 0 := by omega
    refine ⟨_, fun W => run_from ht hs _ _ _ _ (Nat.le_refl _) W, ?_⟩
    rw [if_pos rfl]
    have : xs = [] := List.length_eq_zero_iff.1 (by simpa using hl)
    subst this
    exact ⟨none, 0, rfl, .inl ⟨rfl, rfl, rfl, by simp⟩⟩
  · have ha : At w g e cur := h1
    refine ⟨_, fun W => run_from ht hs _ _ _ _ hk W, ?_⟩
    by_cases hck : cap = k
    · rw [if_pos hck]
      refine SrcAt.mk fun j u hj => ?_
      rw [List.drop_eq_nil_of_le (by rw [hl, ← hck]; exact Nat.mul_le_mul_right _ h2)] at hj
      simp at hj
    · rw [if_neg hck]
      refine SrcAt.mk fun j u hj => ?_
      have e1 : (⟨g, 0, none⟩ : Addr).add (k * size) = ⟨g, k * size, none⟩ := by rw [Go.WideShapes.add_plain, Nat.zero_add]
      show w.cell? (((⟨g, 0, none⟩ : Addr).add (k * size)).add j) = some u
      rw [e1, Go.WideShapes.add_plain, ha.cell, ← Array.getElem?_toList]
      rw [List.getElem?_drop] at hj
      have : ((cur.toList).take (n * size))[k * size + j]? = some u := by rw [h5]; exact hj
      rw [List.getElem?_take] at this
      split at this
      · exact this
      · cases this
end
end Go.Proofs.YtdbpmojblgmhdaaDoor
