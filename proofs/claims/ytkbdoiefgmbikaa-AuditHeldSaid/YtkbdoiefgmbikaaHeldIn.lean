/-
  What is held, boot sets and grants that came in: a struct with slices. No condition.
-/



import Derived.Test.YtkbdoiefgmbikaaIn
import Derived.Test.YtkbdoiefgmbikaaFitsCap
import Derived.Test.YtkbdoiefgmbikaaOutAll
set_option linter.unusedVariables false
namespace Go.Proofs.Ytkbdoiefgmbikaa
open Go.ChangeShapes Go.WideShapes Go.ChangeAt Go.RowKit
theorem open_rows {α : Type} (F : α → List Value) (ls : List Leaf) (P : α → Prop) (hF : ∀ cs, Fits ls cs → ∃ x, cs = F x ∧ P x) (hl : ∀ x, (F x).length = ls.length) {w : World} {a : Option Addr} {len : Nat} (h : Elems w a len ls) :
    ∃ L : List α, L.length = len ∧ (∀ x ∈ L, P x) ∧ RowsAt w a ls.length (L.map F) := by
  rcases h.2 with h0 | ⟨b, off, rfl, hb, hE⟩
  · exact ⟨[], h0.symm, by simp, .inl rfl⟩
  · obtain ⟨L, hL, hp⟩ := choose_list (β := Unit) (fun i (e : α) => P e ∧ ∀ j, j < ls.length → w.cell? ⟨b, off + (i * ls.length + j), none⟩ = (F e)[j]?) len (fun i hi => by
      obtain ⟨cs, hf, hc⟩ := hE i hi
      obtain ⟨e, rfl, he⟩ := hF cs hf
      exact ⟨e, he, hc⟩)
    refine ⟨L, hL, fun e he => ?_, .inr ⟨b, off, rfl, hb, fun k e hk j v hv => ?_⟩⟩
    · obtain ⟨i, hi⟩ := List.getElem?_of_mem he
      exact (hp i e hi).1
    · rw [List.getElem?_map, Option.map_eq_some_iff] at hk
      obtain ⟨x, hk, rfl⟩ := hk
      have hj : j < ls.length := by rw [← hl x]; exact (List.getElem?_eq_some_iff.1 hv).1
      rw [Go.WideShapes.add_plain, Nat.add_assoc, (hp k x hk).2 j hj, hv]
theorem fitsHd {cs : List Value} (h : Fits [.i .i64, .i .i64, .i .u32, .i .u32, .i .u8, .i .u16, .i .u16, .i .u16, .i .u16, .i .u32, .b] cs) : ∃ e : Hd, cs = e.l ∧ (e.c.cur < 4294967296 ∧ e.c.pm < 65536) := by
  obtain ⟨v0, c1, e0, ⟨z0, rfl, w0⟩, h1⟩ := h.cons
  obtain ⟨v1, c2, e1, ⟨z1, rfl, w1⟩, h2⟩ := h1.cons
  obtain ⟨v2, c3, e2, ⟨z2, rfl, w2⟩, h3⟩ := h2.cons
  obtain ⟨c, rfl, hc⟩ := fitsC h3
  have b2 := bd_u32 w2
  obtain ⟨n2, rfl⟩ := Int.eq_ofNat_of_zero_le b2.1
  exact ⟨⟨z0, z1, n2, c⟩, by rw [e0, e1, e2]; rfl, hc.cur, hc.pm⟩
theorem fitsCp {cs : List Value} (h : Fits [.i .u32, .i .u8, .i .u16, .i .u16, .i .u16, .i .u16, .i .u32, .b] cs) : ∃ e : Cp, cs = e.l ∧ (e.cur < 4294967296 ∧ e.pm < 65536) := by
  obtain ⟨c, rfl, hc⟩ := fitsC h
  exact ⟨c, rfl, hc.cur, hc.pm⟩
theorem fitsRg {cs : List Value} (h : Fits [.i .u32, .i .u32] cs) : ∃ e : Nat × Nat, cs = rgl e ∧ (e.1 < 4294967296 ∧ e.2 < 4294967296) := by
  obtain ⟨a, s, rfl, h1, h2⟩ := fitsR h
  exact ⟨(a, s), rfl, h1, h2⟩
structure CaseIn where
  a0 : Option Addr
  n0 : Nat
  c0 : Nat
  a1 : Option Addr
  n1 : Nat
  c1 : Nat
  a2 : Option Addr
  n2 : Nat
  c2 : Nat
  ra : Nat
  rs : Nat
def CaseIn.v (x : CaseIn) : Value := .agg #[.slice x.a0 x.n0 x.c0, .slice x.a1 x.n1 x.c1, .slice x.a2 x.n2 x.c2, .int .u32 x.ra, .int .u32 x.rs]
/-- A slice that came in: as many rows, that are so. -/
def SlOk {α : Type} (W : World) (a : Option Addr) (n c sz : Nat) (F : α → List Value) (P : α → Prop) : Prop :=
  (∃ L : List α, L.length = n ∧ (∀ x ∈ L, P x) ∧ RowsAt W a sz (L.map F)) ∧ n ≤ c ∧ c ≤ maxLen ∧ (a = none → n = 0 ∧ c = 0)
def CaseOk (W : World) (x : CaseIn) : Prop :=
  SlOk W x.a0 x.n0 x.c0 11 Hd.l (fun e => e.c.cur < 4294967296 ∧ e.c.pm < 65536) ∧ SlOk W x.a1 x.n1 x.c1 8 Cp.l (fun e => e.cur < 4294967296 ∧ e.pm < 65536) ∧
    SlOk W x.a2 x.n2 x.c2 2 rgl (fun e => e.1 < 4294967296 ∧ e.2 < 4294967296) ∧ x.ra < 4294967296 ∧ x.rs < 4294967296
section
variable {H : Type} {enc : TypeId × Value → H} {w : World} {base : Nat} {spare : Nat → Bool} {held : Bool}
theorem sl_cell {t e : TypeId} {fuel : Nat} {cs : List Value} {x : DataW H × List MemPlace} (ht : Try.prog.underlying t = some (.slice e)) (h : DataW.trod enc Try.prog w base spare held fuel t cs = some x) : ∃ a n c, cs = [.slice a n c] := by
  rcases Deep.open_slice ht h with ⟨h0, _⟩ | ⟨ad, l, c, m, n', D, Pl, hcs, _⟩
  · exact ⟨none, 0, 0, h0⟩
  · exact ⟨some ad, l, c, hcs⟩
theorem sl_ok {α : Type} (F : α → List Value) (ls : List Leaf) (P : α → Prop) (hF : ∀ cs, Fits ls cs → ∃ x, cs = F x ∧ P x) (hl : ∀ x, (F x).length = ls.length) {t e : TypeId} {fuel a n c : _} {x : DataW H × List MemPlace} (ht : Try.prog.underlying t = some (.slice e)) (hls : flat Try.prog 20 e = some ls) (hC : Try.prog.cellsOf e = ls.length) (hpos : 0 < ls.length)
    (h : DataW.trod enc Try.prog w base spare held fuel t [.slice a n c] = some x) : SlOk w a n c ls.length F P := by
  obtain ⟨h1, h2⟩ := open_elemsc (n := 20) ht hls hC hpos h
  exact ⟨open_rows F ls P hF hl h1, h2⟩
theorem five {cs : List Value} (h : cs.length = 5) : ∃ a b c d e, cs = [a, b, c, d, e] := by
  match cs, h with
  | [a, b, c, d, e], _ => exact ⟨a, b, c, d, e, rfl⟩
set_option maxRecDepth 100000 in
theorem open_case {r : Reach} {b0 : Nat} {v : Value} {d : DataW H} {ps : List MemPlace} (hv : Value.okWide Try.prog w r b0 29 v) (h : DataW.Trod enc Try.prog w base spare held 29 v d ps) : ∃ x : CaseIn, v = x.v ∧ CaseOk w x := by
  have hv2 : ∃ cs, v = .agg cs := by
    unfold Value.okWide at hv
    rw [Try.underlying29] at hv
    obtain ⟨cs, e, _⟩ := hv
    exact ⟨cs, e⟩
  obtain ⟨cs, rfl⟩ := hv2
  obtain ⟨fuel, hf⟩ := h
  obtain ⟨ys, m, _, _, hcl, hyl, hfd⟩ := DataW.trod_struct Try.underlying29 hf
  obtain ⟨x0, x1, x2, x3, x4, hcs⟩ := five (cs := (Value.agg cs).cells.toList) (hcl.trans (by kernel_rfl))
  rw [hcs] at hfd
  have y : ∀ i, i < 4 → ∃ y, ys[i]? = some y := fun i hi => ⟨_, List.getElem?_eq_getElem (by rw [hyl]; exact hi)⟩
  obtain ⟨y0, e0⟩ := y 0 (by omega)
  obtain ⟨y1, e1⟩ := y 1 (by omega)
  obtain ⟨y2, e2⟩ := y 2 (by omega)
  obtain ⟨y3, e3⟩ := y 3 (by omega)
  have g0 : DataW.trod enc Try.prog w base spare held m 22 (([x0, x1, x2, x3, x4].drop 0).take (Try.prog.cellsOf 22)) = ys[0]? := hfd 0 _ rfl
  have g1 : DataW.trod enc Try.prog w base spare held m 23 (([x0, x1, x2, x3, x4].drop 1).take (Try.prog.cellsOf 23)) = ys[1]? := hfd 1 _ rfl
  have g2 : DataW.trod enc Try.prog w base spare held m 24 (([x0, x1, x2, x3, x4].drop 2).take (Try.prog.cellsOf 24)) = ys[2]? := hfd 2 _ rfl
  have g3 : DataW.trod enc Try.prog w base spare held m 27 (([x0, x1, x2, x3, x4].drop 3).take (Try.prog.cellsOf 27)) = ys[3]? := hfd 3 _ rfl
  rw [e0] at g0
  rw [e1] at g1
  rw [e2] at g2
  rw [e3] at g3
  have q0 : Try.prog.cellsOf 22 = 1 := by kernel_rfl
  have q1 : Try.prog.cellsOf 23 = 1 := by kernel_rfl
  have q2 : Try.prog.cellsOf 24 = 1 := by kernel_rfl
  have q3 : Try.prog.cellsOf 27 = 2 := by kernel_rfl
  rw [q0] at g0
  rw [q1] at g1
  rw [q2] at g2
  rw [q3] at g3
  simp only [List.drop_zero, List.drop_succ_cons, List.take_succ_cons, List.take_zero] at g0 g1 g2 g3
  obtain ⟨a0, n0, c0, z0⟩ := sl_cell Try.underlying22 g0
  obtain ⟨a1, n1, c1, z1⟩ := sl_cell Try.underlying23 g1
  obtain ⟨a2, n2, c2, z2⟩ := sl_cell Try.underlying24 g2
  rw [z0] at g0
  rw [z1] at g1
  rw [z2] at g2
  injection z0 with z0 _
  injection z1 with z1 _
  injection z2 with z2 _
  obtain ⟨ra, rs, z3, b1, b2⟩ := fitsR (flat_fits 20 _ _ (by kernel_rfl : flat Try.prog 20 27 = some [.i .u32, .i .u32]) _ _ _ g3)
  injection z3 with z3 z4
  injection z4 with z4 _
  subst z0 z1 z2 z3 z4
  refine ⟨⟨a0, n0, c0, a1, n1, c1, a2, n2, c2, ra, rs⟩, ?_, sl_ok Hd.l _ _ (fun _ h => fitsHd h) (fun _ => rfl) Try.underlying22 (by kernel_rfl) (by kernel_rfl) (by decide) g0, sl_ok Cp.l _ _ (fun _ h => fitsCp h) (fun _ => rfl) Try.underlying23 (by kernel_rfl) (by kernel_rfl) (by decide) g1, sl_ok rgl _ _ (fun _ h => fitsRg h) (fun _ => rfl) Try.underlying24 (by kernel_rfl) (by kernel_rfl) (by decide) g2, b1, b2⟩
  have : cs.toList = _ := hcs
  unfold CaseIn.v
  rw [← Array.toArray_toList (xs := cs), this]
end
end Go.Proofs.Ytkbdoiefgmbikaa
