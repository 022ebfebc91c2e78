/-
  The library's sort of regions by their places. Condition: as many as a slice may hold.
-/


import Derived.Test.YtdbpmojblgmhdaaDoorSortLay
import Derived.Test.YtdbpmojblgmhdaaDoorRgL
import Derived.Test.YtdbpmojblgmhdaaDoorLists
import Derived.Shelf.SlSortCmp.WholeK
set_option linter.unusedVariables false
namespace Go.Proofs.YtdbpmojblgmhdaaDoor
open Go.ChangeShapes Go.WideShapes Go.ChangeAt Go.RowKit
open Go.Shelf Go.Sort
abbrev R32 := { x : Nat × Nat // x.1 < 4294967296 }
instance : Inhabited R32 := ⟨⟨(0, 0), by decide⟩⟩
def encR (x : R32) : List Value := [.int .u32 x.1.1, .int .u32 x.1.2]
def byAt (x y : R32) : Int := (x.1.1 : Int) - y.1.1
theorem flat_rgv (l : List R32) : flatK encR 2 l.toArray = (rgv (l.map (·.1))).toArray := by
  refine ext_get! (by simp [rgv_len]) fun t ht => ?_
  have ht' : t < l.length * 2 := by simpa using ht
  rw [get_flatK _ _ _ t (by simpa using ht')]
  have hi : t / 2 < l.length := by omega
  have hg := rgv_get (l.map (·.1)) (t / 2) l[t / 2].1 (by rw [List.getElem?_map, List.getElem?_eq_getElem hi]; rfl)
  have e1 : l.toArray[t / 2]! = l[t / 2] := by rw [getElem!_pos _ _ (by simpa using hi)]; simp
  rw [e1]
  have hl := rgv_len (l.map (·.1))
  rw [List.length_map] at hl
  rcases Nat.mod_two_eq_zero_or_one t with h | h
  · have := hg.1
    rw [show t / 2 * 2 = t by omega] at this
    rw [h]
    simp [this, encR]
  · have := hg.2
    rw [show t / 2 * 2 + 1 = t by omega] at this
    rw [h]
    simp [this, encR]
theorem lift32 : ∀ l : List (Nat × Nat), (∀ x ∈ l, x.1 < 4294967296) → ∃ d : List R32, d.map (·.1) = l
  | [], _ => ⟨[], rfl⟩
  | x :: l, h => by
    obtain ⟨d, hd⟩ := lift32 l fun y hy => h y (List.mem_cons_of_mem _ hy)
    exact ⟨⟨x, h x List.mem_cons_self⟩ :: d, by rw [List.map_cons, hd]⟩
theorem ltAt (x y : R32) : ltOf byAt x y = decide (x.1.1 < y.1.1) := by
  unfold ltOf byAt
  rw [decide_eq_decide]
  omega
theorem swoAt : SWO (ltOf byAt) where
  irrefl x := by rw [ltAt]; simp
  trans x y z h1 h2 := by rw [ltAt] at *; simp at *; omega
  ntrans x y z h1 h2 := by rw [ltAt] at *; simp at *; omega
theorem scmp_any (x y : R32) (W : World) : Calls Tryd.prog 68 #[.agg #[.int .u32 x.1.1, .int .u32 x.1.2], .agg #[.int .u32 y.1.1, .int .u32 y.1.2]] W fun e w' => e = .returned (.int .i64 (byAt x y)) ∧ ∃ q os', w' = grow (W.drewN q) os' := by
  obtain ⟨⟨x1, x2⟩, hx⟩ := x
  obtain ⟨⟨y1, y2⟩, hy⟩ := y
  dsimp only at hx hy
  unfold byAt
  dsimp only
  go_enter Tryd.func68, Tryd.ntmps68
  go_wp2
  go_ret
  refine ⟨?_, 0, _, by rw [alloc_eq_grow, alloc_eq_grow, grow_grow]; rfl⟩
  simp
theorem heap_sorted {w : World} {g n : Nat} {os : Array Obj} {cur : Array Value} {e : TypeId} {fr : Nat × Nat} (d : Array Value) (hb : w.heap[g]? = some (.cells cur e fr)) :
    (grow (putRow id (Sort.ahead w n) g 0 d) os).heap[g]? = some (.cells (putCells id 0 d cur) e fr) := by
  have hg : g < w.heap.size := (Array.getElem?_eq_some_iff.1 hb).1
  rw [heap_grow_old _ _ (by simpa using hg)]
  simp [putRow, mapBlock, Sort.ahead, Array.getElem?_modify, hb, onCells]
theorem grownBy_sorted {w : World} {g n : Nat} {os : Array Obj} (d : Array Value) : w.grownBy (grow (putRow id (Sort.ahead w n) g 0 d) os) (some g) := by
  refine ⟨rfl, rfl, rfl, by simp, fun k hk hne => ?_⟩
  rw [heap_grow_old _ _ (by simpa using hk)]
  have : g ≠ k := fun e => hne (by rw [e])
  simp [putRow, mapBlock, Sort.ahead, Array.getElem?_modify, this]
theorem take_putCells (cur : Array Value) (ts : List Value) (h : ts.length ≤ cur.size) : (putCells id 0 ts.toArray cur).toList.take ts.length = ts := by
  apply List.ext_getElem?
  intro j
  by_cases hj : j < ts.length
  · rw [List.getElem?_take_of_lt hj, Array.getElem?_toList]
    simp [putCells, hj, show j < cur.size by omega]
  · rw [List.getElem?_take_eq_none (by omega), List.getElem?_eq_none (by omega)]
/-- slices.SortFunc: the same slice, its regions by their places. -/
theorem lsortf_any {w : World} {base : Nat} {v : Value} {l : List (Nat × Nat)} (h : w.ownsRow base 31 2 v l.length (rgv l)) (hv : ¬ l = []) (hb : ∀ x ∈ l, x.1 < 4294967296) (hn : l.length ≤ 1000000) :
    Calls Tryd.prog 80 #[v, .func (.func 68) #[] #[]] w fun e w' => e = .returned (.tuple #[]) ∧ ∃ l', l'.Perm l ∧ l'.Pairwise (fun a b => a.1 ≤ b.1) ∧ w'.ownsRow base 31 2 v l.length (rgv l') ∧ Fr v.ownBlock.toList w w' := by
  have hl := rgv_len l
  rcases rows_open h with ⟨_, h0⟩ | ⟨g, cap, cur, rfl, hbase, hA, h1, h2, h3, h4⟩
  · exact absurd (List.eq_nil_of_length_eq_zero h0) hv
  obtain ⟨d, hd⟩ : ∃ d : List R32, d.map (·.1) = l := lift32 l hb
  have hdl : d.length = l.length := by rw [← hd, List.length_map]
  have hH : HoldsK encR 2 w g 0 d.toArray := by
    unfold HoldsK
    rw [flat_rgv, hd]
    intro j hj
    have hj' : j < (rgv l).length := by simpa using hj
    refine ⟨?_, hA.froz _⟩
    have := rows_at (n := l.length) (cap := cap) hA h4 0 j (rgv l)[j] (by rw [List.drop_zero, List.getElem?_eq_getElem hj'])
    rw [this, getElem!_pos (rgv l).toArray j hj]
    rfl
  have eg : ∀ args w, (callFunc 68 args).run Tryd.prog w = .ok (.enter 68 args) w := enters_of Tryd.func68 (by kernel_rfl) rfl
  have hcon := Go.Proofs.AnyQ.slices_SortFunc sortRg 2 Tryd.isAgg31 Tryd.sizeOf31 encR (fun _ => rfl) (fun x v hv => by simp [encR] at hv; rcases hv with rfl | rfl <;> rfl) byAt swoAt 68 #[] g 0 cap d.toArray w eg
    (fun _ _ _ _ x y => scmp_any x y _) hH hA.lt (by simp; omega)
  change Calls Tryd.prog 80 _ _ _ at hcon
  rw [List.size_toArray, hdl] at hcon
  refine hcon.mono ?_
  rintro e w' ⟨rfl, d', n, os, hp, hs, rfl⟩
  obtain ⟨p1, _, p2⟩ := hp
  have hsz : d'.size = l.length := by rw [p1]; simp [hdl]
  have e0 : d'.extract 0 l.length = d' := by rw [← hsz]; simp
  have e1 : d.toArray.extract 0 l.length = d.toArray := by rw [← hdl]; simp
  rw [e0, e1] at p2
  have hw : sortWorldK encR 2 w g 0 n d' os = grow (putRow id (Sort.ahead w n) g 0 (rgv (d'.toList.map (·.1))).toArray) os := by
    unfold sortWorldK putRowK
    rw [← flat_rgv]
  rw [hw]
  have hl2 : (rgv (d'.toList.map (·.1))).length = l.length * 2 := by rw [rgv_len]; simp [hsz]
  refine ⟨rfl, d'.toList.map (·.1), ?_, ?_, ⟨hl2, .inr ⟨g, cap, _, rfl, hbase, heap_sorted _ hA, h1, h2, by simp [putCells, h3], ?_⟩⟩, ?_⟩
  · rw [← hd]; exact p2.map _
  · rw [List.pairwise_map]
    refine List.pairwise_iff_getElem.2 fun i j hi hj hij => ?_
    have := hs i j (Nat.zero_le _) hij (by rw [← hsz]; simpa using hj)
    rw [ltAt, getElem!_pos d' i (by simpa using hi), getElem!_pos d' j (by simpa using hj)] at this
    simp at this
    simpa using this
  · rw [← hl2]; exact take_putCells cur _ (by rw [hl2, h3]; exact Nat.mul_le_mul_right 2 h1)
  · exact (Fr.grown (grownBy_sorted _))
end Go.Proofs.YtdbpmojblgmhdaaDoor
