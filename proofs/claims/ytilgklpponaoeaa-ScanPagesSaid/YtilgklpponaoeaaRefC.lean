/-
  What the reference of layer 17 does with one capability and with a list of them. Condition: cursors in their type's range; at most a thousand capabilities.
-/




import Derived.Test.YtilgklpponaoeaaWorks
import Derived.Test.YtilgklpponaoeaaRefDec
import Derived.Test.YtilgklpponaoeaaRefAdd
import Derived.Test.YtilgklpponaoeaaFrameH
set_option linter.unusedVariables false
namespace Go.Proofs.Ytilgklpponaoeaa
open Go.ChangeShapes Go.WideShapes Go.ChangeAt Go.RowKit
theorem r04range_any (w : World) (c : Cp) (hc : c.cur < 4294967296) :
    Calls Try.prog 84 #[.agg c.cells] w fun r w' => r = .returned (.tuple #[.int .u32 c.base, .int .u64 c.top]) ∧ Fr [] w w' := by
  unfold Cp.base Cp.top Cp.cells
  have C := Lib.hid fun W => r03dec_any W c.e c.b c.t c.cur hc
  generalize dBase c.e c.b c.t c.cur = X at *
  generalize dTop c.e c.b c.t c.cur = Y at *
  go_enter Try.func84, Try.ntmps84
  go_wp2_with fail
  refine (C.out _).mono ?_
  rintro e w2 ⟨rfl, rfl⟩
  go_wp2_with fail
  go_ret2
  exact ⟨rfl, (by repeat (first | exact Fr.refl _ _ | assumption | refine Fr.trans0 ?_ (by assumption) | refine Fr.drewN ?_ _ | refine Fr.alloc ?_ _ | refine Fr.drew ?_))⟩
theorem r17stale_any (w : World) (b : Nat) (v : Value) (n : Nat) (f : Nat → Bool) (h : Bs b w v n f) (hn : n ≤ 16384) (c : Cp) (hc : c.cur < 4294967296) :
    Calls Try.prog 61 #[.agg c.cells, .agg #[v]] w fun r w' => r = .returned (.bool (stB (hasP n f) c)) ∧ Fr [] w w' := by
  have hbd := dec_bd c.e c.b c.t c.cur
  obtain ⟨av, cv, rfl, hcv⟩ := own_slice h
  have F0 := Lib.hid (show Fr [] w ((w.alloc (.cells c.cells 38)).alloc (.cells #[.slice av n cv] 53)) from (by repeat (first | exact Fr.refl _ _ | assumption | refine Fr.trans0 ?_ (by assumption) | refine Fr.drewN ?_ _ | refine Fr.alloc ?_ _ | refine Fr.drew ?_)))
  have A0 := Lib.hid ((At.new w 38 c.cells).old (.cells #[.slice av n cv] 53))
  have A1 := At.new (w.alloc (.cells c.cells 38)) 53 #[.slice av n cv]
  rw [World.size_alloc] at A1
  have A1 := Lib.hid A1
  have C1 := Lib.hid fun W => r04range_any W c hc
  have C2 := Lib.hid fun (W : World) (hW : Fr [] w W) => r15has_any W b _ n f (own_fr0 h hW) hn c.base hbd.1 (by have := hbd.2.1; unfold Cp.base; omega)
  unfold stB
  generalize c.base = X at *
  generalize c.top = Y at *
  generalize hasP n f X = bb at *
  obtain ⟨cur, e, cb, ct, pm, ty, rs, v⟩ := c
  unfold Cp.cells at *
  dsimp only at *
  clear hbd h
  cases v
  all_goals
    go_enter Try.func61, Try.ntmps61
    go_wp2_with fail
    refine (C1.out _).mono ?_
    rintro e w2 ⟨rfl, hf2⟩
    have c7 := (A0.out.fr hf2 (by simp)).cell 7
    have c0 := (A1.out.fr hf2 (by simp)).cell 0
    simp only [List.getElem?_toArray, List.getElem?_cons_zero, List.getElem?_cons_succ] at c7 c0
    have F2 := Lib.hid (F0.out.trans0 hf2)
    clear hf2
    go_wp2_with fail
    first
      | (go_ret; exact ⟨rfl, F2.out⟩)
      | (refine (C2.out _ F2.out).mono ?_
         rintro e w3 ⟨rfl, hf3⟩
         go_wp2_with fail
         go_ret
         exact ⟨rfl, F2.out.trans0 hf3⟩)
theorem infoCap8 : (Try.prog.info? 38).map (fun i => (i.zero, i.size, i.bytes)) = some (some (.agg noC.cells), 8, 24) := by kernel_rfl
theorem own_caps {w : World} {b : Nat} {u : Value} {l : List Cp} {n : Nat} (hn : l.length = n) (h : w.ownsRow b 38 8 u n (cat l)) : (u = .slice none 0 0 ∧ n = 0) ∨ ∃ g c, u = .slice (some ⟨g, 0, none⟩) n c ∧ n ≤ c ∧ b ≤ g ∧ g < w.heap.size ∧ ∀ (S : List Nat) (W : World), Fr S w W → g ∉ S → ∀ m v, (cat l)[m]? = some v → W.cell? ⟨g, m, none⟩ = some v := by
  rcases h.2 with ⟨rfl, h0⟩ | ⟨g, cap, cur, rfl, hb, hg, h1, h2, h3, h4⟩
  · exact .inl ⟨rfl, h0⟩
  · have hA : At w g 38 cur := hg
    refine .inr ⟨g, cap, rfl, h1, hb, hA.lt, fun S W f hS m v hm => ?_⟩
    rw [(hA.fr f hS).cell m]
    rw [← h4, List.getElem?_take] at hm
    split at hm
    · simpa using hm
    · cases hm
theorem built1 (w : World) (c : Cp) : (Instr.buildSlice 73 1 #[(0, .agg c.cells)]).run Try.prog w = .ok (.slice (some ⟨w.heap.size, 0, none⟩) 1 1) (w.alloc (.cells (cat [c]).toArray 38)) := by kernel_rfl
section
variable {ops : Array Oper} {rest : List Oper} {o : Oper} {a : Act} {w : World} {Q : Exit → Act → World → Prop} {S : World → Prop}
theorem wpList_load_own (hgd : Region.wanted o (yielded ops a.tmps) = true) (x : Operand) (ho : o.op = .load 38 x) (g k : Nat) (hx : a.eval x = .pointer (some ⟨g, k, none⟩)) (l : List Cp) (hg : ∀ m v, (cat l)[m]? = some v → w.cell? ⟨g, m, none⟩ = some v) (i : Nat) (hk : k = i * 8) (c : Cp) (hi : l[i]? = some c)
    (h : wpList Try.prog ops Q rest (a.put o.dst (.agg c.cells)) w) : wpList Try.prog ops Q (o :: rest) a w :=
  wpList_load_at hgd 38 x ho ⟨g, k, none⟩ hx c.l _ (fun j v hv => by
    have hj : j < 8 := by have := (List.getElem?_eq_some_iff.1 hv).1; rw [Cp.l_len] at this; exact this
    rw [Go.WideShapes.add_plain]
    exact hg _ _ (by rw [hk, cat_get l i j c hi hj, hv])) Try.underlying38 rfl infoCapS h
theorem yields_load_own (x : Operand) (ho : o.op = .load 38 x) (g k : Nat) (hx : a.eval x = .pointer (some ⟨g, k, none⟩)) (l : List Cp) (hg : ∀ W, S W → ∀ m v, (cat l)[m]? = some v → W.cell? ⟨g, m, none⟩ = some v) (i : Nat) (hk : k = i * 8) (c : Cp) (hi : l[i]? = some c)
    (hw : Region.wanted o (yielded ops a.tmps) = true) : YieldsIf Try.prog ops S o (.agg c.cells) a :=
  yields_load_at 38 x ho ⟨g, k, none⟩ hx c.l _ (fun W hW j v hv => by
    have hj : j < 8 := by have := (List.getElem?_eq_some_iff.1 hv).1; rw [Cp.l_len] at this; exact this
    rw [Go.WideShapes.add_plain]
    exact hg W hW _ _ (by rw [hk, cat_get l i j c hi hj, hv])) Try.underlying38 rfl infoCapS hw
end
theorem sums_take (hs : Int → Bool) (l : List Cp) : sums hs (l.take l.length) = sums hs l := by rw [List.take_length]
end Go.Proofs.Ytilgklpponaoeaa
