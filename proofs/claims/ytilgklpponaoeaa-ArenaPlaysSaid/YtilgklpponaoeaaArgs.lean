/-
  Arguments that came in: structs and arrays laid flat, down to numbers and truths; slices of such. No condition.
-/

import Derived.Test.YtilgklpponaoeaaBase
set_option linter.unusedVariables false
namespace Go.Proofs.Ytilgklpponaoeaa
open Go.ChangeShapes Go.WideShapes Go.ChangeAt Go.RowKit
inductive Leaf where
  | i (k : IntKind)
  | b
  | s
def Leaf.ok : Leaf → Value → Prop
  | .i k, v => ∃ z, v = .int k z ∧ (Lit.int k z).wf = true
  | .b, v => ∃ x, v = .bool x
  | .s, v => ∃ x : ByteArray, v = .string x ∧ x.size ≤ maxLen
structure Fits (ls : List Leaf) (cs : List Value) : Prop where
  len : cs.length = ls.length
  at_ : ∀ (j : Nat) (l : Leaf), ls[j]? = some l → ∃ v, cs[j]? = some v ∧ l.ok v
theorem Fits.cons {l : Leaf} {ls : List Leaf} {cs : List Value} (h : Fits (l :: ls) cs) : ∃ v cs', cs = v :: cs' ∧ l.ok v ∧ Fits ls cs' := by
  obtain ⟨h1, h2⟩ := h
  match cs, h1 with
  | v :: cs', h1 =>
    obtain ⟨u, hu, hok⟩ := h2 0 l rfl
    simp at hu
    subst hu
    exact ⟨_, cs', rfl, hok, by simpa using h1, fun j l' hj => h2 (j + 1) l' hj⟩
theorem Fits.nil {cs : List Value} (h : Fits [] cs) : cs = [] := List.length_eq_zero_iff.1 h.len
def join : Nat → List (Nat × List Leaf) → Option (List Leaf)
  | _, [] => some []
  | off, (o, l) :: r => if o = off then (join (off + l.length) r).map (l ++ ·) else none
theorem join_at : ∀ (fl : List (Nat × List Leaf)) (off : Nat) (tot : List Leaf), join off fl = some tot → ∀ (j : Nat) (x : Leaf), tot[j]? = some x → ∃ (i o : Nat) (l : List Leaf), fl[i]? = some (o, l) ∧ o ≤ off + j ∧ l[off + j - o]? = some x
  | [], off, tot, h, j, x, hj => by simp [join] at h; subst h; simp at hj
  | (o, l) :: r, off, tot, h, j, x, hj => by
    unfold join at h
    split at h
    · rename_i ho
      subst ho
      simp only [Option.map_eq_some_iff] at h
      obtain ⟨t, ht, rfl⟩ := h
      by_cases hjl : j < l.length
      · rw [List.getElem?_append_left hjl] at hj
        exact ⟨0, o, l, rfl, by omega, by rw [show o + j - o = j by omega]; exact hj⟩
      · rw [List.getElem?_append_right (by omega)] at hj
        obtain ⟨i, o', l', h1, h2, h3⟩ := join_at r (o + l.length) t ht (j - l.length) x hj
        exact ⟨i + 1, o', l', h1, by omega, by rw [show o + j - o' = o + l.length + (j - l.length) - o' by omega]; exact h3⟩
    · cases h
/-- A type, laid flat. -/
def flat (P : Program) : Nat → TypeId → Option (List Leaf)
  | 0, _ => none
  | n + 1, t =>
    match P.underlying t with
    | some .bool => some [.b]
    | some (.int k) => some [.i k]
    | some .string => some [.s]
    | some (.struct fs) => (fs.toList.mapM fun f => (flat P n f.type).bind fun l => if l.length = P.cellsOf f.type then some (f.offset, l) else none).bind fun fl => (join 0 fl).bind fun tot => if tot.length = P.cellsOf t then some tot else none
    | some (.array m e) => (flat P n e).bind fun l => if l.length = P.cellsOf e ∧ m * l.length = P.cellsOf t then some (List.replicate m l).flatten else none
    | _ => none
theorem flatten_at : ∀ (m : Nat) (l : List Leaf) (j : Nat) (x : Leaf), (List.replicate m l).flatten[j]? = some x → ∃ i, i < m ∧ i * l.length ≤ j ∧ l[j - i * l.length]? = some x
  | 0, l, j, x, h => by simp at h
  | m + 1, l, j, x, h => by
    rw [List.replicate_succ, List.flatten_cons] at h
    by_cases hjl : j < l.length
    · rw [List.getElem?_append_left hjl] at h
      exact ⟨0, by omega, by omega, by simpa using h⟩
    · rw [List.getElem?_append_right (by omega)] at h
      obtain ⟨i, h1, h2, h3⟩ := flatten_at m l (j - l.length) x h
      refine ⟨i + 1, by omega, by rw [Nat.add_mul]; omega, ?_⟩
      rw [Nat.add_mul, show j - (i * l.length + 1 * l.length) = j - l.length - i * l.length by omega]
      exact h3
theorem flatten_len : ∀ (m : Nat) (l : List Leaf), (List.replicate m l).flatten.length = m * l.length
  | 0, l => by simp
  | m + 1, l => by rw [List.replicate_succ, List.flatten_cons, List.length_append, flatten_len m l, Nat.add_mul]; omega
section
variable {H : Type} {enc : TypeId × Value → H} {P : Program} {w : World} {base : Nat} {spare : Nat → Bool} {held : Bool}
theorem drop_take_at {cs : List Value} {o k i : Nat} {v : Value} (h : ((cs.drop o).take k)[i]? = some v) : cs[o + i]? = some v := by
  rw [List.getElem?_take] at h
  split at h
  · rw [List.getElem?_drop] at h; exact h
  · cases h
theorem flat_fits : ∀ (n : Nat) (t : TypeId) (ls : List Leaf), flat P n t = some ls → ∀ (fuel : Nat) (cs : List Value) (x : DataW H × List MemPlace), DataW.trod enc P w base spare held fuel t cs = some x → Fits ls cs
  | 0, t, ls, h, _, _, _, _ => by simp [flat] at h
  | n + 1, t, ls, h, fuel, cs, x, hx => by
    unfold flat at h
    split at h
    · rename_i hu
      injection h with h; subst h
      obtain ⟨b, rfl, _⟩ := DataW.trod_bool hu hx
      exact ⟨rfl, fun j l hj => by
        match j, hj with
        | 0, hj => simp at hj; subst hj; exact ⟨_, rfl, b, rfl⟩⟩
    · rename_i k hu
      injection h with h; subst h
      obtain ⟨z, rfl, _, hw⟩ := DataW.trod_int hu hx
      exact ⟨rfl, fun j l hj => by
        match j, hj with
        | 0, hj => simp at hj; subst hj; exact ⟨_, rfl, z, rfl, hw⟩⟩
    · rename_i hu
      injection h with h; subst h
      obtain ⟨b, rfl, _, hb⟩ := DataW.trod_string hu hx
      exact ⟨rfl, fun j l hj => by
        match j, hj with
        | 0, hj => simp at hj; subst hj; exact ⟨_, rfl, b, rfl, hb⟩⟩
    · rename_i fs hu
      simp only [Option.bind_eq_some_iff] at h
      obtain ⟨fl, hfl, tot, htot, h⟩ := h
      split at h
      · rename_i hlen
        injection h with h; subst h
        obtain ⟨ys, m, _, _, hcl, _, hf⟩ := DataW.trod_struct hu hx
        refine ⟨by rw [hcl, hlen], fun j l hj => ?_⟩
        obtain ⟨i, o, l', h1, h2, h3⟩ := join_at fl 0 tot htot j l hj
        have hil : i < fs.toList.length := by
          have := mapM_some_length hfl
          rw [← this]; exact (List.getElem?_eq_some_iff.1 h1).1
        have hfi : fs[i]? = some fs.toList[i] := by
          rw [← Array.getElem?_toList]; exact List.getElem?_eq_getElem hil
        have h4 := mapM_some_get hfl i fs.toList[i] (List.getElem?_eq_getElem hil)
        rw [h1] at h4
        simp only [Option.bind_eq_some_iff] at h4
        obtain ⟨l2, hl2, h4⟩ := h4
        split at h4
        · injection h4 with h4
          injection h4 with h5 h6
          subst h5 h6
          have h7 := hf i _ hfi
          cases hy : ys[i]? with
          | none =>
            rw [hy] at h7
            have : i < ys.length := by simp at hil; omega
            rw [List.getElem?_eq_getElem this] at hy; cases hy
          | some y =>
            rw [hy] at h7
            obtain ⟨_, h8⟩ := flat_fits n _ l2 hl2 m _ y h7
            obtain ⟨v, hv, hok⟩ := h8 _ l h3
            have := drop_take_at hv
            rw [show fs.toList[i].offset + (0 + j - fs.toList[i].offset) = j by omega] at this
            exact ⟨v, this, hok⟩
        · cases h4
      · cases h
    · rename_i m e hu
      simp only [Option.bind_eq_some_iff] at h
      obtain ⟨l, hl, h⟩ := h
      split at h
      · rename_i hlen
        injection h with h; subst h
        obtain ⟨ys, m', _, _, hcl, hyl, hf⟩ := DataW.trod_array hu hx
        refine ⟨by rw [hcl, flatten_len, hlen.2], fun j x hj => ?_⟩
        obtain ⟨i, h1, h2, h3⟩ := flatten_at m l j x hj
        have h7 := hf i h1
        cases hy : ys[i]? with
        | none =>
          have : i < ys.length := by omega
          rw [List.getElem?_eq_getElem this] at hy; cases hy
        | some y =>
          rw [hy] at h7
          obtain ⟨_, h8⟩ := flat_fits n _ l hl m' _ y h7
          obtain ⟨v, hv, hok⟩ := h8 _ x h3
          have := drop_take_at hv
          rw [← hlen.1, show i * l.length + (j - i * l.length) = j by omega] at this
          exact ⟨v, this, hok⟩
      · cases h
    · cases h
/-- A struct or an array that came in by value. -/
theorem open_flat {n : Nat} {t : TypeId} {ls : List Leaf} {r : Reach} {b0 : Nat} {v : Value} {d : DataW H} {ps : List MemPlace} (hls : flat P n t = some ls)
    (hk : (match P.underlying t with | some (.struct _) => true | some (.array _ _) => true | _ => false) = true) (hv : Value.okWide P w r b0 t v) (h : DataW.Trod enc P w base spare held t v d ps) : ∃ cs : List Value, v = .agg cs.toArray ∧ Fits ls cs := by
  have hv2 : ∃ cs, v = .agg cs := by
    unfold Value.okWide at hv
    cases hu : P.underlying t with
    | none => rw [hu] at hk; cases hk
    | some u =>
      rw [hu] at hv hk
      cases u <;> first | (obtain ⟨cs, e, _⟩ := hv; exact ⟨cs, e⟩) | cases hk
  obtain ⟨cs, rfl⟩ := hv2
  obtain ⟨fuel, hf⟩ := h
  exact ⟨cs.toList, by simp, flat_fits n t ls hls fuel _ _ hf⟩
/-- A slice whose elements are laid flat. -/
def Elems (w : World) (a : Option Addr) (len : Nat) (ls : List Leaf) : Prop :=
  len ≤ 9223372036854775807 ∧ (len = 0 ∨ ∃ b off, a = some ⟨b, off, none⟩ ∧ b < w.heap.size ∧ ∀ i, i < len → ∃ cs, Fits ls cs ∧ ∀ j, j < ls.length → w.cell? ⟨b, off + (i * ls.length + j), none⟩ = cs[j]?)
theorem open_elems {n : Nat} {t e : TypeId} {ls : List Leaf} {fuel : Nat} {a : Option Addr} {len cap : Nat} {x : DataW H × List MemPlace} (ht : P.underlying t = some (.slice e)) (hls : flat P n e = some ls) (hC : P.cellsOf e = ls.length) (hpos : 0 < ls.length)
    (h : DataW.trod enc P w base spare held fuel t [.slice a len cap] = some x) : Elems w a len ls := by
  rcases Deep.open_slice ht h with ⟨h0, _⟩ | ⟨ad, l, c, m, n', D, Pl, hcs, hb, hl, hm, hmm, hx, hi⟩
  · simp at h0
    obtain ⟨_, rfl, _⟩ := h0
    exact ⟨by omega, .inl rfl⟩
  · simp at hcs
    obtain ⟨rfl, rfl, rfl⟩ := hcs
    unfold maxLen at hm
    refine ⟨by omega, ?_⟩
    by_cases hz : len = 0
    · exact .inl hz
    · refine .inr ?_
      have hlm : len ≤ m := by rw [hmm]; split <;> omega
      have key : ∀ i, i < len → ∃ cs, Fits ls cs ∧ ∀ j, j < ls.length → w.cell? (ad.add (i * ls.length + j)) = cs[j]? := by
        intro i hil
        obtain ⟨cs', hc, ht'⟩ := hi i (by omega)
        rw [hC] at hc
        obtain ⟨_, hcl, hat⟩ := World.cells?_some hc
        refine ⟨cs', flat_fits n e ls hls _ _ _ ht', fun j hj => ?_⟩
        rw [← Deep.add_add]
        exact hat j hj
      obtain ⟨cs0, hf0, hc0⟩ := key 0 (by omega)
      have hv0 := hc0 0 hpos
      rw [List.getElem?_eq_getElem (show 0 < cs0.length by rw [hf0.len]; exact hpos)] at hv0
      obtain ⟨b, off, spot⟩ := ad
      have hspot : spot = none := by
        have := World.cell?_spot hv0
        simpa [Addr.add] using this
      subst hspot
      refine ⟨b, off, rfl, by have := lt_of_cell hv0; rw [Go.WideShapes.add_plain] at this; exact this, fun i hil => ?_⟩
      obtain ⟨cs, h1, h2⟩ := key i hil
      exact ⟨cs, h1, fun j hj => by have := h2 j hj; rw [Go.WideShapes.add_plain] at this; exact this⟩
theorem open_elemsc {n : Nat} {t e : TypeId} {ls : List Leaf} {fuel : Nat} {a : Option Addr} {len cap : Nat} {x : DataW H × List MemPlace} (ht : P.underlying t = some (.slice e)) (hls : flat P n e = some ls) (hC : P.cellsOf e = ls.length) (hpos : 0 < ls.length)
    (h : DataW.trod enc P w base spare held fuel t [.slice a len cap] = some x) : Elems w a len ls ∧ len ≤ cap ∧ cap ≤ maxLen ∧ (a = none → len = 0 ∧ cap = 0) := by
  refine ⟨open_elems ht hls hC hpos h, ?_⟩
  rcases Deep.open_slice ht h with ⟨h0, _⟩ | ⟨ad, l, c, m, n', D, Pl, hcs, hb, hl, hm, hmm, hx, hi⟩
  · simp at h0
    obtain ⟨_, rfl, rfl⟩ := h0
    exact ⟨Nat.le_refl _, Nat.zero_le _, fun _ => ⟨rfl, rfl⟩⟩
  · simp at hcs
    obtain ⟨rfl, rfl, rfl⟩ := hcs
    exact ⟨hl, hm, by simp⟩
end
end Go.Proofs.Ytilgklpponaoeaa
