/-
  Events that came in. No condition.
-/



import Derived.Test.YtkbdoiefgmbikaaWorks
import Derived.Test.YtkbdoiefgmbikaaFollow
import Derived.Test.YtkbdoiefgmbikaaArgs
set_option linter.unusedVariables false
namespace Go.Proofs.Ytkbdoiefgmbikaa
open Go.ChangeShapes Go.WideShapes Go.ChangeAt Go.RowKit
theorem bd_i64 {z : Int} (h : (Lit.int .i64 z).wf = true) : -9223372036854775808 ≤ z ∧ z ≤ 9223372036854775807 := by
  have h1 : IntKind.i64.min = -9223372036854775808 := rfl
  have h2 : IntKind.i64.max = 9223372036854775807 := rfl
  simpa [Lit.wf, h1, h2] using h
theorem bd_u64 {z : Int} (h : (Lit.int .u64 z).wf = true) : 0 ≤ z ∧ z < 18446744073709551616 := by
  have h1 : IntKind.u64.min = 0 := rfl
  have h2 : IntKind.u64.max = 18446744073709551615 := rfl
  simp [Lit.wf, h1, h2] at h
  omega
theorem bd_u32 {z : Int} (h : (Lit.int .u32 z).wf = true) : 0 ≤ z ∧ z < 4294967296 := by
  have h1 : IntKind.u32.min = 0 := rfl
  have h2 : IntKind.u32.max = 4294967295 := rfl
  simp [Lit.wf, h1, h2] at h
  omega
theorem fitsEv {cs : List Value} (h : Fits [.i .i64, .i .i64, .i .u32, .i .u64, .i .u32, .i .u32] cs) : ∃ e : Ev, cs = evl e ∧ e.Ok := by
  obtain ⟨v0, c1, e0, ⟨z0, rfl, w0⟩, h1⟩ := h.cons
  obtain ⟨v1, c2, e1, ⟨z1, rfl, w1⟩, h2⟩ := h1.cons
  obtain ⟨v2, c3, e2, ⟨z2, rfl, w2⟩, h3⟩ := h2.cons
  obtain ⟨v3, c4, e3, ⟨z3, rfl, w3⟩, h4⟩ := h3.cons
  obtain ⟨v4, c5, e4, ⟨z4, rfl, w4⟩, h5⟩ := h4.cons
  obtain ⟨v5, c6, e5, ⟨z5, rfl, w5⟩, h6⟩ := h5.cons
  rw [e5, h6.nil] at e4
  rw [e4] at e3
  rw [e3] at e2
  rw [e2] at e1
  rw [e1] at e0
  have b2 := bd_u32 w2
  have b3 := bd_u64 w3
  have b4 := bd_u32 w4
  have b5 := bd_u32 w5
  obtain ⟨n2, rfl⟩ := Int.eq_ofNat_of_zero_le b2.1
  obtain ⟨n3, rfl⟩ := Int.eq_ofNat_of_zero_le b3.1
  obtain ⟨n4, rfl⟩ := Int.eq_ofNat_of_zero_le b4.1
  obtain ⟨n5, rfl⟩ := Int.eq_ofNat_of_zero_le b5.1
  exact ⟨⟨z0, z1, n2, n3, n4, n5⟩, e0, by show n4 < _; omega, by show n5 < _; omega, by show n3 < _; omega, by show n2 < _; omega, w0, w1⟩
theorem fitsR {cs : List Value} (h : Fits [.i .u32, .i .u32] cs) : ∃ a s : Nat, cs = [.int .u32 a, .int .u32 s] ∧ a < 4294967296 ∧ s < 4294967296 := by
  obtain ⟨v0, c1, e0, ⟨z0, rfl, w0⟩, h1⟩ := h.cons
  obtain ⟨v1, c2, e1, ⟨z1, rfl, w1⟩, h2⟩ := h1.cons
  rw [e1, h2.nil] at e0
  have b0 := bd_u32 w0
  have b1 := bd_u32 w1
  obtain ⟨n0, rfl⟩ := Int.eq_ofNat_of_zero_le b0.1
  obtain ⟨n1, rfl⟩ := Int.eq_ofNat_of_zero_le b1.1
  exact ⟨n0, n1, e0, by omega, by omega⟩
theorem choose_list {α β : Type} (P : Nat → α → Prop) : ∀ (n : Nat), (∀ i, i < n → ∃ x, P i x) → ∃ l : List α, l.length = n ∧ ∀ i x, l[i]? = some x → P i x
  | 0, _ => ⟨[], rfl, fun i x h => by cases h⟩
  | n + 1, h => by
    obtain ⟨l, hl, hp⟩ := choose_list (β := β) P n (fun i hi => h i (by omega))
    obtain ⟨x, hx⟩ := h n (by omega)
    refine ⟨l ++ [x], by simp [hl], fun i y hy => ?_⟩
    by_cases hi : i < n
    · rw [List.getElem?_append_left (by omega)] at hy
      exact hp i y hy
    · have hil := (List.getElem?_eq_some_iff.1 hy).1
      simp at hil
      obtain rfl : i = n := by omega
      rw [List.getElem?_append_right (by omega), hl, Nat.sub_self] at hy
      simp at hy
      subst hy
      exact hx
/-- Events that came in, as a list. -/
theorem open_evs {w : World} {a : Option Addr} {len : Nat} (h : Elems w a len [.i .i64, .i .i64, .i .u32, .i .u64, .i .u32, .i .u32]) : ∃ L : List Ev, L.length = len ∧ (∀ e ∈ L, e.Ok) ∧ EvIn w a L := by
  rcases h.2 with h0 | ⟨b, off, rfl, hb, hE⟩
  · exact ⟨[], h0.symm, by simp, .inl rfl⟩
  · obtain ⟨L, hL, hp⟩ := choose_list (β := Unit) (fun i (e : Ev) => e.Ok ∧ ∀ j, j < 6 → w.cell? ⟨b, off + (i * 6 + j), none⟩ = (evl e)[j]?) len (fun i hi => by
      obtain ⟨cs, hf, hc⟩ := hE i hi
      obtain ⟨e, rfl, he⟩ := fitsEv hf
      exact ⟨e, he, hc⟩)
    refine ⟨L, hL, fun e he => ?_, .inr ⟨b, off, rfl, hb, fun k e hk j v hv => ?_⟩⟩
    · obtain ⟨i, hi⟩ := List.getElem?_of_mem he
      exact (hp i e hi).1
    · have hj : j < 6 := (List.getElem?_eq_some_iff.1 hv).1
      rw [Go.WideShapes.add_plain, Nat.add_assoc, (hp k e hk).2 j hj, hv]
theorem EvIn.nil_len {w : World} {l : List Ev} (h : EvIn w none l) : l = [] := by
  rcases h with h | ⟨b, off, h, _⟩
  · exact h
  · cases h
theorem nowhere {w : World} {a : Option Addr} {sz : Nat} {l : List (List Value)} (h : RowsAt w a sz l) (hn : l ≠ []) : ∃ b off, a = some ⟨b, off, none⟩ ∧ b < w.heap.size ∧ ∀ k c, l[k]? = some c → ∀ j v, c[j]? = some v → w.cell? ((⟨b, off + k * sz, none⟩ : Addr).add j) = some v := h.resolve_left hn
end Go.Proofs.Ytkbdoiefgmbikaa
