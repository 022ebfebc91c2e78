/-
  What a block of sixteen frames and a trusted stack have in common while calls and returns go on. No condition.
-/



import Derived.Test.YtdfefnajhnlpdaaWorks
set_option linter.unusedVariables false
namespace Go.Proofs.Ytdfefnajhnlpdaa
open Go.ChangeShapes Go.WideShapes Go.ChangeAt Go.RowKit
theorem cat_drop (l : List Cp) (m : Nat) : (cat l).drop (m * 8) = cat (l.drop m) := by
  rcases Nat.lt_or_ge m l.length with h | h
  · conv => lhs; rw [← List.take_append_drop m l, cat_append]
    rw [List.drop_append_of_le_length (by rw [cat_len, List.length_take]; omega), List.drop_of_length_le (by rw [cat_len, List.length_take]; omega), List.nil_append]
  · rw [List.drop_of_length_le (by rw [cat_len]; omega), List.drop_of_length_le h]
    rfl
/-- Frame number i of sixteen is laid. -/
def putF (BL : List Cp) (i : Nat) (fr : List Cp) : List Cp := BL.take (i * 17) ++ fr ++ BL.drop (i * 17 + 17)
theorem cat_putF (BL fr : List Cp) (i : Nat) (h : fr.length = 17) : (cat BL).take (i * 136) ++ cat fr ++ (cat BL).drop (i * 136 + (cat fr).length) = cat (putF BL i fr) := by
  unfold putF
  rw [cat_append, cat_append, ← cat_take, ← cat_drop, cat_len, h, show i * 17 * 8 = i * 136 by omega, show (i * 17 + 17) * 8 = i * 136 + 17 * 8 by omega]
theorem putF_len (BL fr : List Cp) (i : Nat) (h : fr.length = 17) (hB : BL.length = 272) (hi : i < 16) : (putF BL i fr).length = 272 := by
  unfold putF
  simp only [List.length_append, List.length_take, List.length_drop, h, hB]
  omega
theorem putF_in (BL fr : List Cp) (i j : Nat) (h : fr.length = 17) (hB : BL.length = 272) (hi : i < 16) (hj : j < 17) : (putF BL i fr)[i * 17 + j]? = fr[j]? := by
  unfold putF
  rw [List.append_assoc, List.getElem?_append_right (by rw [List.length_take, hB]; omega), List.length_take, hB, show i * 17 + j - min (i * 17) 272 = j by omega, List.getElem?_append_left (by omega)]
theorem putF_lo (BL fr : List Cp) (i m : Nat) (hB : BL.length = 272) (hi : i < 16) (hm : m < i * 17) : (putF BL i fr)[m]? = BL[m]? := by
  unfold putF
  rw [List.append_assoc, List.getElem?_append_left (by rw [List.length_take, hB]; omega), List.getElem?_take_of_lt hm]
/-- The stack has what i callers had. -/
def Rel (i : Nat) (BL SL : List Cp) : Prop := ∀ j, j < i → ∃ p x y : Cp, BL[j * 17 + 16]? = some p ∧ BL[j * 17 + 14]? = some x ∧ BL[j * 17 + 15]? = some y ∧ SL[3 * j]? = some (p.addr ((p.cur + 4) % 4294967296)) ∧ SL[3 * j + 1]? = some x ∧ SL[3 * j + 2]? = some y
theorem Rel.zero (BL SL : List Cp) : Rel 0 BL SL := fun j h => by omega
theorem Rel.step {i : Nat} {BL SL fr : List Cp} {p x y : Cp} (h : Rel i BL SL) (hB : BL.length = 272) (hS : SL.length = 3 * i) (hi : i < 16) (hl : fr.length = 17) (hp : fr[16]? = some p) (hx : fr[14]? = some x) (hy : fr[15]? = some y) :
    Rel (i + 1) (putF BL i fr) (SL ++ [p.addr ((p.cur + 4) % 4294967296), x, y]) := fun j hj => by
  by_cases e : j = i
  · subst e
    refine ⟨p, x, y, by rw [putF_in BL fr j 16 hl hB hi (by omega)]; exact hp, by rw [putF_in BL fr j 14 hl hB hi (by omega)]; exact hx, by rw [putF_in BL fr j 15 hl hB hi (by omega)]; exact hy, ?_, ?_, ?_⟩
    · rw [List.getElem?_append_right (by omega), hS, Nat.sub_self]; rfl
    · rw [List.getElem?_append_right (by omega), hS, show 3 * j + 1 - 3 * j = 1 by omega]; rfl
    · rw [List.getElem?_append_right (by omega), hS, show 3 * j + 2 - 3 * j = 2 by omega]; rfl
  · obtain ⟨p', x', y', h1, h2, h3, h4, h5, h6⟩ := h j (by omega)
    refine ⟨p', x', y', by rw [putF_lo BL fr i _ hB hi (by omega)]; exact h1, by rw [putF_lo BL fr i _ hB hi (by omega)]; exact h2, by rw [putF_lo BL fr i _ hB hi (by omega)]; exact h3, ?_, ?_, ?_⟩
    · rw [List.getElem?_append_left (by omega)]; exact h4
    · rw [List.getElem?_append_left (by omega)]; exact h5
    · rw [List.getElem?_append_left (by omega)]; exact h6
theorem Rel.back {k : Nat} {BL SL : List Cp} (h : Rel (k + 1) BL SL) : Rel k BL (SL.take (3 * k)) := fun j hj => by
  obtain ⟨p', x', y', h1, h2, h3, h4, h5, h6⟩ := h j (by omega)
  refine ⟨p', x', y', h1, h2, h3, ?_, ?_, ?_⟩
  · rw [List.getElem?_take_of_lt (by omega)]; exact h4
  · rw [List.getElem?_take_of_lt (by omega)]; exact h5
  · rw [List.getElem?_take_of_lt (by omega)]; exact h6
theorem zeroWas (w : World) : (zeroValue 40).run Try.prog w = .ok (.agg (cat (List.replicate 272 noC)).toArray) w := by kernel_rfl
section
variable {ops : Array Oper} {rest : List Oper} {o : Oper} {a : Act} {w : World} {Q : Exit → Act → World → Prop}
/-- A frame laid into a block of sixteen. -/
theorem wpList_store_frame (hgd : Region.wanted o (yielded ops a.tmps) = true) (x y : Operand) (ho : o.op = .store 31 x y) (g k : Nat) (fr : List Cp) (hx : a.eval x = .pointer (some ⟨g, k, none⟩)) (hy : a.eval y = .agg (cat fr).toArray)
    (t : TypeId) (BL : List Cp) (hg : At w g t (cat BL).toArray) (hf : fr.length = 17) (hB : BL.length = 272) (i : Nat) (hk : k = i * 136) (hi : i < 16)
    (h : ∀ w', At w' g t (cat (putF BL i fr)).toArray → Fr [g] w w' → wpList Try.prog ops Q rest (a.put o.dst undef) w') : wpList Try.prog ops Q (o :: rest) a w :=
  wpList_store_at hgd 31 x y ho g k (cat fr) hx hy t (cat BL) hg (by rw [infoFrame, cat_len, hf]) (by rw [cat_len, cat_len, hf, hB]; omega) (cat_one' fr) (fun w' h1 h2 => h w' (by rw [← cat_putF BL fr i hf, ← hk]; exact h1) h2)
end
end Go.Proofs.Ytdfefnajhnlpdaa
