/-
  The reference's arena: bytes and truths; what is there; bytes laid. Condition: numbers in their types' ranges.
-/





import Derived.Test.YtilgklpponaoeaaRefOf
import Derived.Test.YtilgklpponaoeaaBoth
import Derived.Test.YtilgklpponaoeaaLists
set_option linter.unusedVariables false
namespace Go.Proofs.Ytilgklpponaoeaa
open Go.ChangeShapes Go.WideShapes Go.ChangeAt Go.RowKit
/-- The reference's arena at r: bytes in block bb, truths in block tb. -/
structure Ra (w : World) (r bb tb cb ct : Nat) (bs : List Nat) (f : Nat → Bool) : Prop where
  m16 : bs.length % 16 = 0
  le : bs.length ≤ 262144
  byt : Byt bs
  cb1 : bs.length ≤ cb
  cb2 : cb ≤ 9223372036854775807
  ct1 : bs.length / 16 ≤ ct
  ct2 : ct ≤ 9223372036854775807
  at_ : At w r 34 #[.slice (some ⟨bb, 0, none⟩) bs.length cb, .slice (some ⟨tb, 0, none⟩) (bs.length / 16) ct]
  bytes : ∃ cs : Array Value, At w bb 5 cs ∧ bs.length ≤ cs.size ∧ cs.toList.take bs.length = bys bs
  tags : ∃ ds : Array Value, At w tb 4 ds ∧ bs.length / 16 ≤ ds.size ∧ ds.toList.take (bs.length / 16) = bls (bs.length / 16) f
section
variable {w w' : World} {r bb tb cb ct : Nat} {bs : List Nat} {f : Nat → Bool} {S : List Nat}
theorem Ra.fr (h : Ra w r bb tb cb ct bs f) (F : Fr S w w') (h1 : r ∉ S) (h2 : bb ∉ S) (h3 : tb ∉ S) : Ra w' r bb tb cb ct bs f := by
  obtain ⟨cs, c1, c2⟩ := h.bytes
  obtain ⟨ds, d1, d2⟩ := h.tags
  exact ⟨h.m16, h.le, h.byt, h.cb1, h.cb2, h.ct1, h.ct2, h.at_.fr F h1, ⟨cs, c1.fr F h2, c2⟩, ⟨ds, d1.fr F h3, d2⟩⟩
theorem Ra.fr0 (h : Ra w r bb tb cb ct bs f) (F : Fr [] w w') : Ra w' r bb tb cb ct bs f := h.fr F (by simp) (by simp) (by simp)
theorem Ra.ne (h : Ra w r bb tb cb ct bs f) : r ≠ bb ∧ r ≠ tb ∧ bb ≠ tb := by
  obtain ⟨cs, c1, _⟩ := h.bytes
  obtain ⟨ds, d1, _⟩ := h.tags
  exact ⟨h.at_.diff c1 (by decide), h.at_.diff d1 (by decide), c1.diff d1 (by decide)⟩
theorem Ra.lt (h : Ra w r bb tb cb ct bs f) : r < w.heap.size ∧ bb < w.heap.size ∧ tb < w.heap.size := by
  obtain ⟨cs, c1, _⟩ := h.bytes
  obtain ⟨ds, d1, _⟩ := h.tags
  exact ⟨h.at_.lt, c1.lt, d1.lt⟩
theorem Ra.c0 (h : Ra w r bb tb cb ct bs f) : w.cell? ⟨r, 0, none⟩ = some (.slice (some ⟨bb, 0, none⟩) bs.length cb) := h.at_.cell 0
theorem Ra.c1 (h : Ra w r bb tb cb ct bs f) : w.cell? ⟨r, 1, none⟩ = some (.slice (some ⟨tb, 0, none⟩) (bs.length / 16) ct) := h.at_.cell 1
theorem Ra.byte (h : Ra w r bb tb cb ct bs f) (i n : Nat) (hi : bs[i]? = some n) : w.cell? ⟨bb, i, none⟩ = some (.int .u8 (n : Int)) := by
  obtain ⟨cs, c1, c2, c3⟩ := h.bytes
  have hlt := (List.getElem?_eq_some_iff.1 hi).1
  rw [c1.cell, ← Array.getElem?_toList]
  have := bys_get bs i n hi
  rw [← c3, List.getElem?_take, if_pos hlt] at this
  exact this
theorem Ra.bfroz (h : Ra w r bb tb cb ct bs f) (i : Nat) : w.frozen? ⟨bb, i, none⟩ = false := by
  obtain ⟨cs, c1, _⟩ := h.bytes; exact c1.froz i
theorem Ra.tag (h : Ra w r bb tb cb ct bs f) (i : Nat) (hi : i < bs.length / 16) : w.cell? ⟨tb, i, none⟩ = some (.bool (f i)) := by
  obtain ⟨ds, d1, d2, d3⟩ := h.tags
  rw [d1.cell, ← Array.getElem?_toList]
  have := bls_get (bs.length / 16) f i hi
  rw [← d3, List.getElem?_take, if_pos hi] at this
  exact this
theorem Ra.tfroz (h : Ra w r bb tb cb ct bs f) (i : Nat) : w.frozen? ⟨tb, i, none⟩ = false := by
  obtain ⟨ds, d1, _⟩ := h.tags; exact d1.froz i
theorem Ra.setB (h : Ra w r bb tb cb ct bs f) (i n : Nat) (hn : n < 256) : Ra (w.setCell ⟨bb, i, none⟩ (.int .u8 (n : Int))) r bb tb cb ct (bs.set i n) f := by
  obtain ⟨n1, n2, n3⟩ := h.ne
  obtain ⟨cs, c1, c2, c3⟩ := h.bytes
  obtain ⟨ds, d1, d2⟩ := h.tags
  have hl : (bs.set i n).length = bs.length := List.length_set
  refine ⟨by rw [hl]; exact h.m16, by rw [hl]; exact h.le, h.byt.set i n hn, by rw [hl]; exact h.cb1, h.cb2, by rw [hl]; exact h.ct1, h.ct2, by rw [hl]; exact h.at_.far n1 _, ⟨_, c1.set i _, by rw [hl]; simpa using c2, ?_⟩, by rw [hl]; exact ⟨ds, d1.far (fun e => n3 e.symm) _, d2⟩⟩
  rw [hl, Array.toList_setIfInBounds, List.take_set, c3, bys_set]
theorem bls_set (n : Nat) (f : Nat → Bool) (i : Nat) (b : Bool) : (bls n f).set i (.bool b) = bls n (upd f i b) := by
  refine List.ext_getElem? fun j => ?_
  rw [List.getElem?_set]
  by_cases hj : j < n
  · rw [bls_get n f j hj, bls_get n _ j hj, bls_len]
    unfold upd
    by_cases e : i = j
    · subst e; simp [hj]
    · rw [if_neg e, if_neg (fun h => e h.symm)]
  · have h1 : ∀ g, (bls n g)[j]? = none := fun g => List.getElem?_eq_none (by rw [bls_len]; omega)
    rw [h1, h1, bls_len]
    by_cases e : i = j
    · subst e; simp [hj]
    · rw [if_neg e]
theorem Ra.setT (h : Ra w r bb tb cb ct bs f) (i : Nat) (b : Bool) : Ra (w.setCell ⟨tb, i, none⟩ (.bool b)) r bb tb cb ct bs (upd f i b) := by
  obtain ⟨n1, n2, n3⟩ := h.ne
  obtain ⟨cs, c1, c2⟩ := h.bytes
  obtain ⟨ds, d1, d2, d3⟩ := h.tags
  refine ⟨h.m16, h.le, h.byt, h.cb1, h.cb2, h.ct1, h.ct2, h.at_.far n2 _, ⟨cs, c1.far n3 _, c2⟩, ⟨_, d1.set i _, by simpa using d2, ?_⟩⟩
  rw [Array.toList_setIfInBounds, List.take_set, d3, bls_set]
end
section
variable (w : World) (r bb tb cb ct : Nat) (bs : List Nat) (f : Nat → Bool) (h : Ra w r bb tb cb ct bs f)
include h
theorem rthere_any (a : Nat) (ha : a < 4294967296) (n : Int) (hn1 : -9223372036854775808 ≤ n) (hn2 : n ≤ 9223372036854775807) :
    Calls Try.prog 56 #[.pointer (some ⟨r, 0, none⟩), .int .u32 a, .int .i64 n] w fun e w' => e = .returned (.bool (thB bs.length a n)) ∧ w = w' := by
  have c0 := h.c0
  have hN := h.le
  obtain ⟨N, hNN⟩ : ∃ N, bs.length = N := ⟨_, rfl⟩
  rw [hNN] at c0 hN ⊢
  clear h hNN
  unfold thB
  by_cases h0 : 0 ≤ n
  · by_cases h1 : n ≤ N
    · by_cases h2 : (a : Int) ≤ N - n
      all_goals
        have d0 := decide_eq_true h0
        have d1 := decide_eq_true h1
        first | have d2 := decide_eq_false h2 | have d2 := decide_eq_true h2
        rw [d0, d1, d2]
        go_enter Try.func56, Try.ntmps56
        go_wp2_with fail
        go_ret
        exact ⟨rfl, rfl⟩
    · have d0 := decide_eq_true h0
      have d1 := decide_eq_false h1
      rw [d0, d1, Bool.false_and, Bool.and_false]
      go_enter Try.func56, Try.ntmps56
      go_wp2_with fail
      go_ret
      exact ⟨rfl, rfl⟩
  · have d0 := decide_eq_false h0
    rw [d0, Bool.false_and]
    go_enter Try.func56, Try.ntmps56
    go_wp2_with fail
    go_ret
    exact ⟨rfl, rfl⟩
end
end Go.Proofs.Ytilgklpponaoeaa
