/-
  The iterator over a slice of regions. Condition: as many as a slice may hold.
-/


import Derived.Test.YtdbpmojblgmhdaaDoorCollect
set_option linter.unusedVariables false
namespace Go.Proofs.YtdbpmojblgmhdaaDoor
open Go.ChangeShapes Go.WideShapes Go.ChangeAt Go.RowKit
attribute [local go_sem] Oper.semAt_some
theorem lvalues_any (w : World) (a : Option Addr) (n c : Nat) :
    Calls Tryd.prog 69 #[.slice a n c] w fun e w' => ∃ q, e = .returned (.func (.func 82) #[] #[.pointer (some ⟨q, 0, none⟩)]) ∧ At w' q 34 #[.slice a n c] ∧ w.heap.size ≤ q ∧ Fr [] w w' := by
  go_enter Tryd.func69, Tryd.ntmps69
  go_wp2
  go_ret
  exact ⟨w.heap.size, rfl, At.new _ _ _, Nat.le_refl _, (by repeat (first | exact Fr.refl _ _ | assumption | refine Fr.trans0 ?_ (by assumption) | refine Fr.drewN ?_ _ | refine Fr.alloc ?_ _ | refine Fr.drew ?_))⟩
theorem KpB.alloc (bs : List Nat) (w : World) (o : Obj) : KpB bs w (w.alloc o) := fun b _ cs t r h => ((MapKept.heap_alloc w o).2 b (Array.getElem?_eq_some_iff.1 h).1).trans h
set_option maxHeartbeats 1000000 in
theorem lvalues_stops (m q g cap : Nat) (cur : Array Value) (l : List (Nat × Nat)) (w : World) (hq : At w q 34 #[.slice (some ⟨g, 0, none⟩) l.length cap]) (hg : At w g 31 cur) (ht : cur.toList.take (l.length * 2) = rgv l) (hl : l.length ≤ 1000000) :
    SeqStopsK Fence.wide m Tryd.prog 82 #[.pointer (some ⟨q, 0, none⟩)] (fun x : Nat × Nat => #[rkey x]) (KpB [q, g]) (fun xs => xs = l) (fun _ => True) l.length w := fun lb J Jx W hbl hJ hJx hY h0 => by
  have hfr : Fr [] w W := Fr.of_below hbl
  have Hq := Lib.hid (hq.fr hfr (by simp))
  have Hg := Lib.hid (hg.fr hfr (by simp))
  have HT := Lib.hid ht
  have cq := Hq.out.cell 0
  simp only [List.getElem?_toArray, List.getElem?_cons_zero] at cq
  have HY := Lib.hid hY
  have HJ0 := Lib.hid h0
  clear hq hg hbl hfr hY ht h0
  refine callsIn_of_wp Tryd.func82 rfl trivial ?_ rfl
  simp only [Tryd.ntmps82, List.size_toArray, List.length_cons, List.length_nil, Nat.reduceAdd, Nat.reduceSub, Array.replicate_succ, Array.replicate_zero, List.push_toArray, List.append_toArray, List.nil_append, List.cons_append]
  gi_wp2
  gi_loopw [7] (fun v wr => ∃ k : Nat, k ≤ l.length ∧ v = .int .i64 k ∧ J (l.take k) wr ∧ At wr g 31 cur) (fun v _ => l.length - (intOf v).toNat)
  case atStart => exact ⟨0, by omega, rfl, by simpa using HJ0.out, Hg.out⟩
  case round =>
    clear Hq cq HJ0 Hg
    obtain ⟨k, hk, rfl, hj, hg⟩ := hrel
    by_cases hkl : k < l.length
    · obtain ⟨⟨x1, x2⟩, hx⟩ : ∃ x, l[k]? = some x := ⟨l[k], List.getElem?_eq_getElem hkl⟩
      have h2 := rgv_get l k _ hx
      have k0 := rows_at (n := l.length) (cap := cap) hg HT.out (k * 2) 0 _ (by rw [List.getElem?_drop]; exact h2.1)
      have k1 := rows_at (n := l.length) (cap := cap) hg HT.out (k * 2) 1 _ (by rw [List.getElem?_drop]; exact h2.2)
      simp only [Nat.add_zero] at k0
      have hj2 : J (l.take k) (wr.alloc (.cells #[.int .u32 x1, .int .u32 x2] 31)) := hJ _ wr _ none hj (World.grownBy_alloc wr _ none) (fun r e => by cases e)
      obtain ⟨fn, tmps, assign, body, hy, hR⟩ := HY.out (l.take k) (x1, x2) _ hj2 (by rw [List.length_take]; omega)
      have Hg2 := Lib.hid (hg.old (.cells #[.int .u32 x1, .int .u32 x2] 31))
      rw [show l.take k ++ [(x1, x2)] = l.take (k + 1) by rw [List.take_add_one, hx]; rfl] at hR
      unfold rkey at hy
      dsimp only at hy
      have HR := Lib.hid hR
      clear hj hg h2 hx hR
      gi_wp2
      refine ⟨fun h => (by cases h), HR.out.mono ?_⟩
      rintro e W3 (⟨rfl, hJ3, hk3⟩ | ⟨rfl, hJx3⟩)
      · have hg3 := hk3.at_ (by simp) Hg2.out
        gi_wp2
        go_roundw
        case rel => exact ⟨k + 1, by omega, rfl, hJ3, hg3⟩
        case measure => simp [intOf]; omega
      · gi_wp2
        refine bodyPost_ret (results_none rfl _ _ _) rfl ?_
        exact ⟨⟨_, rfl⟩, .inr ⟨l.take (k + 1), trivial, hJx3⟩⟩
    · obtain rfl : k = l.length := by omega
      have HJ2 := Lib.hid hj
      clear hj hg
      gi_wp2
      go_end0
      refine ⟨⟨_, rfl⟩, .inl ⟨l, rfl, ?_⟩⟩
      have := HJ2.out
      rwa [List.take_length] at this
theorem lvalues_none (m q : Nat) (bs : List Nat) (w : World) (hq : At w q 34 #[.slice none 0 0]) :
    SeqStopsK Fence.wide m Tryd.prog 82 #[.pointer (some ⟨q, 0, none⟩)] (fun x : Nat × Nat => #[rkey x]) (KpB bs) (fun xs => xs = []) (fun _ => True) 0 w := fun lb J Jx W hbl hJ hJx hY h0 => by
  have hfr : Fr [] w W := Fr.of_below hbl
  have Hq := Lib.hid (hq.fr hfr (by simp))
  have cq := Hq.out.cell 0
  simp only [List.getElem?_toArray, List.getElem?_cons_zero] at cq
  have HJ0 := Lib.hid h0
  clear hq hbl hfr hY h0
  refine callsIn_of_wp Tryd.func82 rfl trivial ?_ rfl
  simp only [Tryd.ntmps82, List.size_toArray, List.length_cons, List.length_nil, Nat.reduceAdd, Nat.reduceSub, Array.replicate_succ, Array.replicate_zero, List.push_toArray, List.append_toArray, List.nil_append, List.cons_append]
  gi_wp2
  gi_loopw [7] (fun v wr => v = .int .i64 0 ∧ J [] wr) (fun v _ => 0)
  case atStart => exact ⟨rfl, HJ0.out⟩
  case round =>
    obtain ⟨rfl, hj⟩ := hrel
    have HJ2 := Lib.hid hj
    clear hj HJ0
    gi_wp2
    go_end0
    exact ⟨⟨_, rfl⟩, .inl ⟨[], rfl, HJ2.out⟩⟩
end Go.Proofs.YtdbpmojblgmhdaaDoor
