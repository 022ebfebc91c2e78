/-
  The keys of a map of regions: the iterator, and its keys as a slice. Condition: as many as a slice may hold.
-/


import Derived.Test.YtdbpmojblgmhdaaDoorHMaps
import Derived.Test.YtdbpmojblgmhdaaDoorRangeApp
import Derived.Test.YtdbpmojblgmhdaaDoorRgL
import Derived.Sort.MapsRangeIn
set_option linter.unusedVariables false
namespace Go.Proofs.YtdbpmojblgmhdaaDoor
open Go.ChangeShapes Go.WideShapes Go.ChangeAt Go.RowKit
attribute [local go_sem] Oper.semAt_some
theorem mkeys_any (w : World) (b : Nat) :
    Calls Tryd.prog 67 #[.map (some b)] w fun e w' => ∃ q, e = .returned (.func (.func 81) #[] #[.pointer (some ⟨q, 0, none⟩)]) ∧ At w' q 53 #[.map (some b)] ∧ w.heap.size ≤ q ∧ Fr [] w w' := by
  go_enter Tryd.func67, Tryd.ntmps67
  go_wp2
  go_ret
  exact ⟨w.heap.size, rfl, At.new _ _ _, Nat.le_refl _, (by repeat (first | exact Fr.refl _ _ | assumption | refine Fr.trans0 ?_ (by assumption) | refine Fr.drewN ?_ _ | refine Fr.alloc ?_ _ | refine Fr.drew ?_))⟩
theorem sub_length {L p : List (Nat × Nat)} {j : Nat × Nat} (hL : L.Nodup) (hp : p.Nodup) (hs : ∀ x ∈ p, x ∈ L) (hj : j ∈ L) (hn : j ∉ p) : p.length < L.length := by
  have h1 : (L.filter fun x => decide (x ∈ p)).Perm p := by
    refine (List.perm_ext_iff_of_nodup (hL.filter _) hp).2 fun a => ?_
    simp only [List.mem_filter, decide_eq_true_eq]
    exact ⟨fun h => h.2, fun h => ⟨hs a h, h⟩⟩
  rw [← h1.length_eq]
  have := List.length_filter_le (fun x => decide (x ∈ p)) L
  rcases Nat.lt_or_eq_of_le this with h | h
  · exact h
  · have h2 := List.length_filter_eq_length_iff.1 h j hj
    simp at h2
    exact absurd h2 hn
theorem kw_alloc (w : World) (o : Obj) : KeepsWalks w (w.alloc o) := ⟨by simp, fun k x hk _ => ((MapKept.heap_alloc w o).2 k (Array.getElem?_eq_some_iff.1 hk).1).trans hk⟩
set_option maxHeartbeats 1000000 in
theorem mkeys_stops (m q b : Nat) (L : List (Nat × Nat)) (w : World) (hq : At w q 53 #[.map (some b)]) (hb : Ms w b L) :
    SeqStopsK Fence.wide m Tryd.prog 81 #[.pointer (some ⟨q, 0, none⟩)] (fun x : Nat × Nat => #[rkey x]) KeepsWalks (fun xs => xs.Perm L) (fun _ => True) L.length w := fun l J Jx W hbl hJ hJx hY h0 => by
  have hfr : Fr [] w W := Fr.of_below hbl
  have Hq := Lib.hid (hq.fr hfr (by simp))
  have Hb := Lib.hid (hb.fr0 hfr)
  have HN := Lib.hid hb.nodup
  have cq := Hq.out.cell 0
  simp only [List.getElem?_toArray, List.getElem?_cons_zero] at cq
  have HY := Lib.hid hY
  clear hq hb hbl hfr hY
  refine callsIn_of_wp Tryd.func81 rfl trivial ?_ rfl
  simp only [Tryd.ntmps81, List.size_toArray, List.length_cons, List.length_nil, Nat.reduceAdd, Nat.reduceSub, Array.replicate_succ, Array.replicate_zero, List.push_toArray, List.append_toArray, List.nil_append, List.cons_append]
  gi_wp2_with (first | (gi_at_range; refine wpListIn_rrange rfl _ 53 rfl Hb.out _ Tryd.underlying53 rfl ?_; intro w0 cnt0 hw0 hg0 hs0) | gi_in)
  gi_loopw [3] (fun _ wr => ∃ cnt pre, Mw wr b W.heap.size L pre cnt ∧ J pre wr) (fun _ wr => wr.rangeLeft b W.heap.size)
  case atStart => exact ⟨cnt0, [], hw0, hJ [] W w0 none h0 hg0 (fun r e => by cases e)⟩
  case round =>
    obtain ⟨cnt, pre, hw, hj⟩ := hrel
    gi_wp2_with (first
      | (gi_at_next; refine wpListIn_rnext rfl _ rfl hw rfl ?_ ?_)
      | gi_in)
    · intro hdone
      gi_wp2
      go_end0
      exact ⟨⟨_, rfl⟩, .inl ⟨pre, hdone, hj⟩⟩
    · intro j1 j2 v w2 cnt2 hjL hjp hw2 hlt hg2 hs2 hen
      have hJ2 : J pre w2 := hJ pre wr w2 (some W.heap.size) hj hg2 (fun r e => by cases e; exact ⟨Nat.le_refl _, hw.walk⟩)
      have hJ3 : J pre (w2.alloc (.cells #[.int .u32 j1, .int .u32 j2] 31)) := hJ pre w2 _ none hJ2 (World.grownBy_alloc w2 _ none) (fun r e => by cases e)
      obtain ⟨fn, tmps, assign, body, hy, hR⟩ := HY.out pre (j1, j2) _ hJ3 (sub_length HN.out hw.nodup.1 hw.nodup.2 hjL hjp)
      have hw2b := hw2.of_walks (kw_alloc w2 (.cells #[.int .u32 j1, .int .u32 j2] 31))
      unfold rkey at hy
      dsimp only at hy
      clear hs2
      gi_wp2
      refine ⟨fun h => (by cases h), hR.mono ?_⟩
      rintro e W3 (⟨rfl, hJ3, hk3⟩ | ⟨rfl, hJx3⟩)
      · gi_wp2
        have hw3 := hw2b.of_walks hk3
        go_roundw
        case rel => exact ⟨cnt2, pre ++ [(j1, j2)], hw3, hJ3⟩
        case measure => rw [hw3.left_eq, hw.left_eq]; exact hlt
      · gi_wp2
        refine bodyPost_ret (results_none rfl _ _ _) rfl ?_
        exact ⟨⟨_, rfl⟩, .inr ⟨pre ++ [(j1, j2)], trivial, hJx3⟩⟩
end Go.Proofs.YtdbpmojblgmhdaaDoor
