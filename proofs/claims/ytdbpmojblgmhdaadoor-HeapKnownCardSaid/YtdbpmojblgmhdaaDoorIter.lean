/-
  The iterator of slots: the pages of a book, rising, and where their words lie. Conditions: numbers in their types' ranges.
-/


import Derived.Test.YtdbpmojblgmhdaaDoorMake
import Derived.Test.YtdbpmojblgmhdaaDoorRange
set_option linter.unusedVariables false
namespace Go.Proofs.YtdbpmojblgmhdaaDoor
open Go.ChangeShapes Go.WideShapes Go.ChangeAt Go.RowKit
attribute [local go_sem] Oper.semAt_some
theorem KpB.bk {bs : List Nat} {W W' : World} (h : KpB bs W W') {bp per : Nat} {F : Nat → Nat → Bool} {T : Nat → Bool} {r0 : Int} (hb : bp ∈ bs) (hk : Bk W bp per F T r0) : Bk W' bp per F T r0 := h.at_ hb hk
/-- What the iterator hands out at a page. -/
def pg (bp : Nat) (x : Fin 1024) : Array Value := #[.int .i64 (x.val : Nat), .pointer (some ⟨bp, 1 + x.val * 2, none⟩)]
def nums (l : List (Fin 1024)) : List Nat := l.map (·.val)
theorem nums_snoc (l : List (Fin 1024)) (x : Fin 1024) : nums (l ++ [x]) = nums l ++ [x.val] := by unfold nums; rw [List.map_append]; rfl
theorem nums_len (l : List (Fin 1024)) : (nums l).length = l.length := List.length_map _
set_option maxHeartbeats 1000000 in
set_option maxRecDepth 100000 in
theorem pages_stops (m q bp per : Nat) (F : Nat → Nat → Bool) (T : Nat → Bool) (r0 : Int) (w : World) (hq : At w q 50 #[.pointer (some ⟨bp, 0, none⟩)]) (hb : Bk w bp per F T r0) (hp : 0 < per) :
    SeqStopsK Fence.wide m Tryd.prog 83 #[.pointer (some ⟨q, 0, none⟩)] (pg bp) (KpB [q, bp]) (fun xs => nums xs = told T 1024) (fun pre => nums pre <+: told T 1024) 1024 w := fun l J Jx W hbl hJ hJx hY h0 => by
  have hfr : Fr [] w W := Fr.of_below hbl
  have Hq := Lib.hid (hq.fr hfr (by simp))
  have Hb := Lib.hid (hb.fr hfr (by simp))
  have cq := Hq.out.cell 0
  simp only [List.getElem?_toArray, List.getElem?_cons_zero] at cq
  have HY := Lib.hid hY
  clear hq hb hbl hfr hY
  refine callsIn_of_wp Tryd.func83 rfl trivial ?_ rfl
  simp only [Tryd.ntmps83, List.size_toArray, List.length_cons, List.length_nil, Nat.reduceAdd, Nat.reduceSub, Array.replicate_succ, Array.replicate_zero, List.push_toArray, List.append_toArray, List.nil_append, List.cons_append]
  gi_wp2_with (refine ⟨trivial, fun h => (by cases h), ?_⟩; refine (callsIn_wide.2 (bnone_any Hb.out hp)).mono ?_; rintro e w' ⟨rfl, rfl⟩)
  gi_loopw [6] (fun v wr => ∃ (k : Nat) (L : List (Fin 1024)), k ≤ 1024 ∧ v = .int .i64 k ∧ nums L = told T k ∧ J L wr ∧ At wr q 50 #[.pointer (some ⟨bp, 0, none⟩)] ∧ Bk wr bp per F T r0) (fun v _ => 1024 - (intOf v).toNat)
  case atStart => exact ⟨0, [], by omega, rfl, rfl, h0, Hq.out, Hb.out⟩
  case round =>
    clear Hq Hb cq
    obtain ⟨k, L, hk, rfl, hL, hj, hq, hb⟩ := hrel
    have HL := Lib.hid hL
    clear hL
    by_cases hkn : k < 1024
    · have cq := hq.cell 0
      have ct := hb.ct k hkn
      simp only [List.getElem?_toArray, List.getElem?_cons_zero] at cq
      have Hq := Lib.hid hq
      have Hb := Lib.hid hb
      by_cases hT : T k = true
      · have HS := Lib.hid (show told T (k + 1) = told T k ++ [k] by rw [told_succ, if_pos hT])
        rw [hT] at ct
        have hlen := told_len T k
        rw [← HL.out, nums_len] at hlen
        obtain ⟨fn, tmps, assign, body, hy, hR⟩ := HY.out L ⟨k, hkn⟩ wr hj (by omega)
        have HX := Lib.hid (show nums (L ++ [⟨k, hkn⟩]) = told T (k + 1) by rw [nums_snoc, HL.out, HS.out])
        have HR := Lib.hid hR
        unfold pg at hy
        obtain ⟨L2, hL2⟩ : ∃ L2, L ++ [⟨k, hkn⟩] = L2 := ⟨_, rfl⟩
        rw [hL2] at HR HX
        clear hj hq hb hR hT hL2 hlen
        gi_wp2
        refine ⟨fun h => (by cases h), HR.out.mono ?_⟩
        rintro e W3 (⟨rfl, hJ3, hk3⟩ | ⟨rfl, hJx3⟩)
        · have hq3 := hk3.at_ (by simp) Hq.out
          have hb3 := hk3.bk (by simp) Hb.out
          have HJ3 := Lib.hid hJ3
          have HQ3 := Lib.hid hq3
          have HB3 := Lib.hid hb3
          clear hJ3 hk3 hq3 hb3
          gi_wp2
          go_roundw
          case rel => exact ⟨k + 1, L2, by omega, by go_num, HX.out, HJ3.out, HQ3.out, HB3.out⟩
          case measure => simp [intOf]; omega
        · have HPr := Lib.hid (told_prefix T (k + 1) 1024 (by omega))
          rw [← HX.out] at HPr
          gi_wp2
          refine bodyPost_ret (results_none rfl _ _ _) rfl ?_
          exact ⟨⟨_, rfl⟩, .inr ⟨_, HPr.out, hJx3⟩⟩
      · have HS := Lib.hid (show told T (k + 1) = told T k by rw [told_succ, if_neg hT])
        rw [Bool.not_eq_true] at hT
        rw [hT] at ct
        have HJ := Lib.hid hj
        clear hj hq hb hT
        gi_wp2
        refine ⟨fun _ h => (by cases h), ?_⟩
        gi_wp2
        go_roundw
        case rel => exact ⟨k + 1, L, by omega, by go_num, by rw [HS.out]; exact HL.out, HJ.out, Hq.out, Hb.out⟩
        case measure => simp [intOf]; omega
    · obtain rfl : k = 1024 := by omega
      have HJ := Lib.hid hj
      clear hq hb hj
      gi_wp2
      go_end0
      exact ⟨⟨_, rfl⟩, .inl ⟨_, HL.out, HJ.out⟩⟩
set_option maxHeartbeats 1000000 in
set_option maxRecDepth 100000 in
theorem pages_none (m q bp : Nat) (bs : List Nat) (w : World) (hq : At w q 50 #[.pointer none]) :
    SeqStopsK Fence.wide m Tryd.prog 83 #[.pointer (some ⟨q, 0, none⟩)] (pg bp) (KpB bs) (fun xs => nums xs = []) (fun pre => nums pre <+: []) 0 w := fun l J Jx W hbl hJ hJx hY h0 => by
  have hfr : Fr [] w W := Fr.of_below hbl
  have Hq := Lib.hid (hq.fr hfr (by simp))
  have cq := Hq.out.cell 0
  simp only [List.getElem?_toArray, List.getElem?_cons_zero] at cq
  have H0 := Lib.hid h0
  clear hq hbl hfr hY h0
  refine callsIn_of_wp Tryd.func83 rfl trivial ?_ rfl
  simp only [Tryd.ntmps83, List.size_toArray, List.length_cons, List.length_nil, Nat.reduceAdd, Nat.reduceSub, Array.replicate_succ, Array.replicate_zero, List.push_toArray, List.append_toArray, List.nil_append, List.cons_append]
  gi_wp2_with (refine ⟨trivial, fun h => (by cases h), ?_⟩; refine (callsIn_wide.2 (bnone_nil _)).mono ?_; rintro e w' ⟨rfl, rfl⟩)
  refine bodyPost_ret (results_none rfl _ _ _) rfl ?_
  exact ⟨⟨_, rfl⟩, .inl ⟨_, rfl, H0.out⟩⟩
theorem biter_any (w : World) (v : Option Addr) :
    Calls Tryd.prog 72 #[.pointer v] w fun e w' => ∃ q, e = .returned (.func (.func 83) #[] #[.pointer (some ⟨q, 0, none⟩)]) ∧ At w' q 50 #[.pointer v] ∧ w.heap.size ≤ q ∧ Fr [] w w' := by
  go_enter Tryd.func72, Tryd.ntmps72
  go_wp2
  go_ret
  exact ⟨w.heap.size, rfl, At.new _ _ _, Nat.le_refl _, (by repeat (first | exact Fr.refl _ _ | assumption | refine Fr.trans0 ?_ (by assumption) | refine Fr.drewN ?_ _ | refine Fr.alloc ?_ _ | refine Fr.drew ?_))⟩
end Go.Proofs.YtdbpmojblgmhdaaDoor
