/-
  Lists of regions in memory, two cells each; copies between such lists. Condition: the places lie within the blocks.
-/

import Derived.Test.YtdbpmojblgmhdaaDoorLists
import Derived.Test.YtdbpmojblgmhdaaDoorCells
import Derived.Test.YtdbpmojblgmhdaaDoorHeld
import Derived.Lib.AppendZerosOnto
import Derived.Lib.Overlaps
import Derived.Laws.Externs
set_option linter.unusedVariables false
namespace Go.Proofs.YtdbpmojblgmhdaaDoor
open Go.ChangeShapes Go.WideShapes Go.ChangeAt Go.RowKit
def rgv (l : List (Nat × Nat)) : List Value := l.flatMap fun r => [.int .u32 r.1, .int .u32 r.2]
theorem rgv_len : ∀ l : List (Nat × Nat), (rgv l).length = l.length * 2
  | [] => rfl
  | r :: l => by have := rgv_len l; unfold rgv at this ⊢; rw [List.flatMap_cons, List.length_append, this]; simp; omega
theorem rgv_append (a b : List (Nat × Nat)) : rgv (a ++ b) = rgv a ++ rgv b := by unfold rgv; exact List.flatMap_append
theorem rgv_cons (r : Nat × Nat) (b : List (Nat × Nat)) : rgv (r :: b) = [.int .u32 r.1, .int .u32 r.2] ++ rgv b := by unfold rgv; rw [List.flatMap_cons]
theorem rgv_take (l : List (Nat × Nat)) (k : Nat) : rgv (l.take k) = (rgv l).take (k * 2) := by
  induction l generalizing k with
  | nil => simp [rgv]
  | cons r l ih =>
    cases k with
    | zero => simp [rgv]
    | succ k => rw [List.take_succ_cons, rgv_cons, rgv_cons, ih, show (k + 1) * 2 = k * 2 + 1 + 1 by omega]; rfl
theorem rgv_drop (l : List (Nat × Nat)) (k : Nat) : rgv (l.drop k) = (rgv l).drop (k * 2) := by
  induction l generalizing k with
  | nil => simp [rgv]
  | cons r l ih =>
    cases k with
    | zero => simp [rgv]
    | succ k => rw [List.drop_succ_cons, rgv_cons, ih, show (k + 1) * 2 = k * 2 + 1 + 1 by omega]; rfl
theorem rgv_one (l : List (Nat × Nat)) : ∀ v ∈ rgv l, v.oneCell' = true := fun v hv => by
  unfold rgv at hv
  obtain ⟨r, _, h⟩ := List.mem_flatMap.1 hv
  simp at h
  rcases h with rfl | rfl <;> rfl
theorem rgv_get (l : List (Nat × Nat)) (i : Nat) (r : Nat × Nat) (h : l[i]? = some r) : (rgv l)[i * 2]? = some (.int .u32 r.1) ∧ (rgv l)[i * 2 + 1]? = some (.int .u32 r.2) := by
  have hi := (List.getElem?_eq_some_iff.1 h).1
  have e : l.drop i = r :: l.drop (i + 1) := by rw [List.drop_eq_getElem_cons hi]; congr 1; rw [List.getElem?_eq_getElem hi] at h; injection h
  have e2 := rgv_drop l i
  rw [e, rgv_cons] at e2
  have h0 : ((rgv l).drop (i * 2))[0]? = some (.int .u32 r.1) := by rw [← e2]; rfl
  have h1 : ((rgv l).drop (i * 2))[1]? = some (.int .u32 r.2) := by rw [← e2]; rfl
  rw [List.getElem?_drop] at h0 h1
  exact ⟨h0, h1⟩
theorem infoRg : (Tryd.prog.info? 31).map (fun i => (i.zero, i.size, i.bytes)) = some (some (.agg #[.int .u32 0, .int .u32 0]), 2, 8) := by kernel_rfl
theorem infoRgS : (Tryd.prog.info? 31).map (·.size) = some 2 := by kernel_rfl
section
variable {P : Program}
theorem run_copy_min (w : World) (dT sT ty elem : TypeId) (s g o nd ns n dCap : Nat) (hmin : Nat.min ns nd = n) (a : Addr) (sCap : Nat) (cur : Array Value) (t : TypeId) (cs : List Value)
    (hu : P.underlying dT = some (.slice elem)) (hs : (P.info? elem).map (·.size) = some s)
    (hg : w.heap[g]? = some (.cells cur t (0, 0))) (hn : cs.length = n * s)
    (hsrc : ∀ j v, cs[j]? = some v → w.cell? (a.add j) = some v) (hfit : o + cs.length ≤ cur.size) (h1 : ∀ v ∈ cs, v.oneCell' = true) :
    (Builtin.copy_ #[dT, sT] ty #[.slice (some ⟨g, o, none⟩) nd dCap, .slice (some a) ns sCap]).run P w =
      .ok (goInt n) (w.setRow g (cur.toList.take o ++ cs ++ cur.toList.drop (o + cs.length)).toArray) := by
  have hl := run_loadCells_list (P := P) w a cs hsrc
  have hst := run_storeCells_at P g o t cs 0 cur w hg (by simpa using hfit) h1
  cases hq : P.info? elem with
  | none => simp [hq] at hs
  | some i =>
    have hi : i.size = s := by simpa [hq] using hs
    rw [hn] at hl hst
    simp [Builtin.copy_, run_underlying hu, Builtin.lenOf, Builtin.firstCells, sizeOf, typeInfo, hq, hi, hl, hst, hn, hmin]
theorem wp_copy_run {o : Oper} {a : Act} {w : World} {K : Act → World → Prop} {Q : Exit → Act → World → Prop} (d s : Operand) (t t' : TypeId)
    (ho : o.op = .call { callee := .builtin .copy, args := #[d, s], argTypes := #[t, t'] }) (v u : Value) (hd : a.eval d = v) (hs : a.eval s = u) {v' : Value} {w' : World}
    (hr : (Builtin.copy_ #[t, t'] o.type #[v, u]).run P w = .ok v' w') (h : K (a.put o.dst v') w') : o.wp P a w K Q := by
  unfold Oper.wp execOp
  simp only [ho, resolve, invoke, builtin, Sem.run_bind, Sem.run_pure, Result.andThen_ok, List.map_toArray, List.map_cons, List.map_nil, hd, hs, hr]
  exact h
theorem wpList_copy_at {ops : Array Oper} {rest : List Oper} {o : Oper} {a : Act} {w : World} {Q : Exit → Act → World → Prop} (hgd : o.guard = none) (d s : Operand) (t t' : TypeId)
    (ho : o.op = .call { callee := .builtin .copy, args := #[d, s], argTypes := #[t, t'] }) (v u : Value) (hd : a.eval d = v) (hs : a.eval s = u) {v' : Value} {w' : World}
    (hr : (Builtin.copy_ #[t, t'] o.type #[v, u]).run P w = .ok v' w') (h : wpList P ops Q rest (a.put o.dst v') w') : wpList P ops Q (o :: rest) a w :=
  wpList_plain hgd fun K hK => wp_copy_run d s t t' ho v u hd hs hr (hK _ _ h)
end
/-- The block behind a list. -/
theorem rows_open {w : World} {b n : Nat} {v : Value} {xs : List Value} (h : w.ownsRow b 31 2 v n xs) : (v = .slice none 0 0 ∧ n = 0) ∨ ∃ g cap cur, v = .slice (some ⟨g, 0, none⟩) n cap ∧ b ≤ g ∧ At w g 31 cur ∧ n ≤ cap ∧ cap ≤ maxLen ∧ cur.size = cap * 2 ∧ cur.toList.take (n * 2) = xs := h.2
theorem rows_at {w : World} {g n cap : Nat} {cur : Array Value} {xs : List Value} (ha : At w g 31 cur) (ht : cur.toList.take (n * 2) = xs) (k j : Nat) (v : Value) (hv : (xs.drop k)[j]? = some v) : w.cell? ⟨g, k + j, none⟩ = some v := by
  rw [ha.cell]
  rw [List.getElem?_drop, ← ht, List.getElem?_take] at hv
  split at hv
  · simpa using hv
  · cases hv
end Go.Proofs.YtdbpmojblgmhdaaDoor
