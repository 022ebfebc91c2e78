/-
  What the reference of layer 13 computes: pages in a list, each with a list of truths. Condition: at most 1024 pages, 16 slots.
-/


import Derived.Test.YtggcmeoafbmckaaDoorRefPlain
import Derived.Test.YtggcmeoafbmckaaDoorSrc

import Derived.Deep.RegionHeld3
set_option linter.unusedVariables false
namespace Go.Proofs.YtggcmeoafbmckaaDoor
open Go.ChangeShapes Go.WideShapes Go.ChangeAt Go.RowKit
/-! ### pages as cells -/
def pcs (P : List (Nat × Value)) : List Value := P.flatMap fun x => [.int .i64 (x.1 : Nat), x.2]
theorem pcs_len (P : List (Nat × Value)) : (pcs P).length = P.length * 2 := by
  unfold pcs
  induction P with
  | nil => rfl
  | cons x P ih => rw [List.flatMap_cons, List.length_append, ih, List.length_cons]; simp; omega
theorem pcs_append (P Q : List (Nat × Value)) : pcs (P ++ Q) = pcs P ++ pcs Q := List.flatMap_append
theorem pcs_get : ∀ (P : List (Nat × Value)) (i : Nat) (x : Nat × Value), P[i]? = some x → (pcs P)[i * 2]? = some (.int .i64 (x.1 : Nat)) ∧ (pcs P)[i * 2 + 1]? = some x.2
  | [], i, x, h => by simp at h
  | y :: P, 0, x, h => by simp at h; subst h; exact ⟨rfl, rfl⟩
  | y :: P, i + 1, x, h => by
    have ih := pcs_get P i x (by simpa using h)
    unfold pcs at ih ⊢
    rw [List.flatMap_cons, show (i + 1) * 2 = i * 2 + 2 by omega]
    exact ⟨by rw [List.getElem?_append_right (by simp)]; exact ih.1, by rw [List.getElem?_append_right (by simp)]; exact ih.2⟩
theorem pcs_take (P : List (Nat × Value)) (k : Nat) (hk : k ≤ P.length) : (pcs P).take (k * 2) = pcs (P.take k) := by
  have e := pcs_append (P.take k) (P.drop k)
  rw [List.take_append_drop] at e
  rw [e, List.take_left' (by rw [pcs_len, List.length_take, Nat.min_eq_left hk])]
theorem pcs_drop (P : List (Nat × Value)) (k : Nat) (hk : k ≤ P.length) : (pcs P).drop (k * 2) = pcs (P.drop k) := by
  have e := pcs_append (P.take k) (P.drop k)
  rw [List.take_append_drop] at e
  rw [e, List.drop_left' (by rw [pcs_len, List.length_take, Nat.min_eq_left hk])]
theorem pcs_set : ∀ (P : List (Nat × Value)) (k n : Nat) (u : Value), k < P.length → ((pcs P).set (k * 2) (.int .i64 (n : Nat))).set (k * 2 + 1) u = pcs (P.set k (n, u))
  | [], k, n, u, h => by simp at h
  | x :: P, 0, n, u, h => rfl
  | x :: P, k + 1, n, u, h => by
    have ih := pcs_set P k n u (by simpa using h)
    unfold pcs at ih ⊢
    rw [List.flatMap_cons, show (k + 1) * 2 = k * 2 + 2 by omega, List.set_append_right _ _ (by simp), List.set_append_right _ _ (by simp), List.set_cons_succ, List.flatMap_cons]
    exact congrArg (_ ++ ·) ih
/-- One-cell values: what a page's slots are. -/
def SlV (v : Value) : Prop := ∃ a n c, v = .slice a n c
theorem SlV.one {v : Value} (h : SlV v) : v.oneCell' = true := by obtain ⟨a, n, c, rfl⟩ := h; rfl
theorem pcs_one (P : List (Nat × Value)) (h : ∀ x ∈ P, SlV x.2) : ∀ u ∈ pcs P, u.oneCell' = true := fun u hu => by
  unfold pcs at hu
  obtain ⟨x, hx, hu⟩ := List.mem_flatMap.1 hu
  simp at hu
  rcases hu with rfl | rfl
  · rfl
  · exact (h x hx).one
theorem infoPg : (Tryd.prog.info? 78).map (fun i => (i.zero, i.size, i.bytes)) = some (some (.agg #[.int .i64 0, .slice none 0 0]), 2, 32) := by kernel_rfl
theorem infoB : (Tryd.prog.info? 4).map (fun i => (i.zero, i.size, i.bytes)) = some (some (.bool false), 1, 1) := by kernel_rfl
def Bs (b : Nat) (w : World) (v : Value) (n : Nat) (f : Nat → Bool) : Prop := w.ownsRow b 4 1 v n (bls n f)
theorem Bs.sl {b n : Nat} {w : World} {v : Value} {f : Nat → Bool} (h : Bs b w v n f) : SlV v := by obtain ⟨a, c, rfl, _⟩ := own_slice h; exact ⟨_, _, _, rfl⟩
/-- The reference's pages. -/
def Rp (b : Nat) (w : World) (v : Value) (P : List (Nat × Value)) : Prop := w.ownsRow b 78 2 v P.length (pcs P)
structure RB (w : World) (v : Value) (per : Nat) (F : Nat → Nat → Bool) (T : Nat → Bool) (P : List (Nat × Value)) : Prop where
  row : Rp 0 w v P
  num : P.map (·.1) = told T 1024
  free : ∀ x ∈ P, Bs 0 w x.2 per (F x.1)
theorem RB.fr {w w' : World} {v : Value} {per : Nat} {F : Nat → Nat → Bool} {T : Nat → Bool} {P : List (Nat × Value)} (h : RB w v per F T P) (f : Fr [] w w') : RB w' v per F T P :=
  ⟨own_fr0 h.row f, h.num, fun x hx => own_fr0 (h.free x hx) f⟩
theorem RB.len {w : World} {v : Value} {per : Nat} {F : Nat → Nat → Bool} {T : Nat → Bool} {P : List (Nat × Value)} (h : RB w v per F T P) : P.length ≤ 1024 := by
  have := congrArg List.length h.num
  rw [List.length_map] at this
  have := told_len T 1024
  omega
/-! ### New -/
theorem r13new_yes (per : Nat) (h1 : 1 ≤ per) (h2 : per ≤ 16) (w : World) :
    Calls Tryd.prog 16 #[.int .i64 per] w fun r w' => r = .returned (.tuple #[.agg #[.int .i64 per, .slice none 0 0], .bool true]) ∧ Fr [] w w' := by
  have hd : decide ((per : Int) < 1) = false := by simp; omega
  go_enter Tryd.func16, Tryd.ntmps16
  go_wp2
  exact bodyPost_ret (v := .tuple #[.agg #[.int .i64 per, .slice none 0 0], .bool true]) (by simp [results, Tryd.results16, go_sem]) rfl ⟨rfl, (by repeat (first | exact Fr.refl _ _ | assumption | refine Fr.trans0 ?_ (by assumption) | refine Fr.drewN ?_ _ | refine Fr.alloc ?_ _ | refine Fr.drew ?_))⟩
theorem r13new_no (n : Int) (h : n < 1 ∨ 16 < n) (w : World) :
    Calls Tryd.prog 16 #[.int .i64 n] w fun r w' => r = .returned (.tuple #[.agg #[.int .i64 0, .slice none 0 0], .bool false]) ∧ Fr [] w w' := by
  by_cases h1 : n < 1
  · clear h
    go_enter Tryd.func16, Tryd.ntmps16
    go_wp2
    exact bodyPost_ret (v := .tuple #[.agg #[.int .i64 0, .slice none 0 0], .bool false]) (by simp [results, Tryd.results16, go_sem]) rfl ⟨rfl, (by repeat (first | exact Fr.refl _ _ | assumption | refine Fr.trans0 ?_ (by assumption) | refine Fr.drewN ?_ _ | refine Fr.alloc ?_ _ | refine Fr.drew ?_))⟩
  · have h2 : 16 < n := by omega
    have hd : decide (n < 1) = false := by simp; omega
    clear h
    go_enter Tryd.func16, Tryd.ntmps16
    go_wp2
    exact bodyPost_ret (v := .tuple #[.agg #[.int .i64 0, .slice none 0 0], .bool false]) (by simp [results, Tryd.results16, go_sem]) rfl ⟨rfl, (by repeat (first | exact Fr.refl _ _ | assumption | refine Fr.trans0 ?_ (by assumption) | refine Fr.drewN ?_ _ | refine Fr.alloc ?_ _ | refine Fr.drew ?_))⟩
/-! ### find -/
theorem r13find_any {w : World} {per : Int} {v : Value} {P : List (Nat × Value)} (h : Rp 0 w v P) (hP : P.length ≤ 1024) (p : Int) :
    Calls Tryd.prog 36 #[.agg #[.int .i64 per, v], .int .i64 p] w fun r w' => r = .returned (.tuple #[.int .i64 (fnd (P.map (·.1)) p : Nat), .bool (fis (P.map (·.1)) p)]) ∧ Fr [] w w' := by
  obtain ⟨av, cv, rfl, hcv⟩ := own_slice h
  have hop := Lib.hid fun (hn : 0 < P.length) => own_openS h hn
  have hA := At.new w 43 #[.int .i64 per, .slice av P.length cv]
  have hfa : Fr [] w (w.alloc (.cells #[.int .i64 per, .slice av P.length cv] 43)) := (by repeat (first | exact Fr.refl _ _ | assumption | refine Fr.trans0 ?_ (by assumption) | refine Fr.drewN ?_ _ | refine Fr.alloc ?_ _ | refine Fr.drew ?_))
  have c1 := hA.cell 1
  simp only [List.getElem?_toArray, List.getElem?_cons_zero, List.getElem?_cons_succ] at c1
  have HF := Lib.hid hfa
  obtain ⟨L, hL⟩ : ∃ L, P.length = L := ⟨_, rfl⟩
  have HL := Lib.hid hL
  rw [hL] at c1 HF hop hP ⊢
  clear hfa h hA hL
  go_enter Tryd.func36, Tryd.ntmps36
  go_wp2
  go_loopw [6] (fun i wr => ∃ k : Nat, k ≤ L ∧ i = .int .i64 k ∧ (∀ j n, j < k → (P.map (·.1))[j]? = some n → (n : Int) < p) ∧ wr = w.alloc (.cells #[.int .i64 per, .slice av L cv] 43)) (fun i _ => L - (intOf i).toNat)
  case atStart => exact ⟨0, by omega, rfl, fun j n hj => by omega, rfl⟩
  case round =>
    obtain ⟨k, hk, rfl, hlow, rfl⟩ := hrel
    have Hlow := Lib.hid hlow
    clear hlow
    by_cases hlt : k < L
    · obtain ⟨g, c, hv, _, _, hgw, hcell, _⟩ := hop.out (by omega)
      injection hv with hv1 hv2 hv3
      subst hv1 hv3
      obtain ⟨⟨n, u⟩, hx⟩ : ∃ x, P[k]? = some x := ⟨_, List.getElem?_eq_getElem (by rw [HL.out]; exact hlt)⟩
      have c0 := (HF.out.cell (a := ⟨g, k * 2, none⟩) hgw (by simp)).trans ((hcell (k * 2) (by omega)).trans (pcs_get P k _ hx).1)
      have HX := Lib.hid (show (P.map (·.1))[k]? = some n by rw [List.getElem?_map, hx]; rfl)
      dsimp only at c0
      clear hcell hx
      by_cases hge : p ≤ (n : Int)
      · have HFd := Lib.hid (fnd_is (P.map (·.1)) p k (by rw [List.length_map, HL.out]; omega) Hlow.out (fun m hm => by rw [HX.out] at hm; injection hm with hm; omega))
        have HFi := Lib.hid (show fis (P.map (·.1)) p = ((n : Int) == p) by unfold fis; rw [HFd.out, HX.out]; simp only; rw [Bool.eq_iff_iff]; simp)
        go_wp2
        go_quiet (fail)
        go_wp2
        go_ret2
        exact ⟨by rw [HFd.out, HFi.out]; rfl, HF.out.drewN _⟩
      · have hge' : (n : Int) < p := by omega
        go_wp2
        go_roundw
        case rel =>
          refine ⟨k + 1, by omega, by go_num, fun j m hj hm => ?_, by trivial⟩
          by_cases e : j = k
          · subst e; rw [HX.out] at hm; injection hm with hm; omega
          · exact Hlow.out j m (by omega) hm
        case measure => simp [intOf]; omega
    · obtain rfl : k = L := by omega
      have HFd := Lib.hid (fnd_is (P.map (·.1)) p k (by rw [List.length_map, HL.out]; omega) Hlow.out (fun m hm => by
        have := (List.getElem?_eq_some_iff.1 hm).1
        rw [List.length_map, HL.out] at this; omega))
      have HFi := Lib.hid (show fis (P.map (·.1)) p = false by unfold fis; rw [HFd.out, List.getElem?_eq_none (by rw [List.length_map, HL.out]; omega)])
      go_wp2
      go_ret2
      exact ⟨by rw [HFd.out, HFi.out]; rfl, HF.out⟩
/-! ### all -/
theorem r13all_any {w : World} (per : Nat) (hp : per ≤ 16) :
    Calls Tryd.prog 37 #[.int .i64 per] w fun r w' => ∃ v, r = .returned v ∧ Bs w.heap.size w' v per (fun _ => true) ∧ Fr [] w w' := by
  obtain ⟨i0, hii, hz0, hz1, hz2⟩ := info_parts infoB
  go_enter Tryd.func37, Tryd.ntmps37
  go_wp2
  go_loopw [3, 4] (fun v i wr => ∃ k : Nat, k ≤ per ∧ i = .int .i64 k ∧ Bs w.heap.size wr v k (fun _ => true) ∧ Fr [] w wr) (fun _ i _ => per - (intOf i).toNat)
  case atStart => exact ⟨0, by omega, rfl, World.ownsRow_nil _ _ _ _, Fr.refl _ _⟩
  case round =>
    obtain ⟨k, hk, rfl, hb, hf⟩ := hrel
    by_cases hlt : k < per
    · have hfs := hf.size
      have HB := Lib.hid hb
      have HF := Lib.hid hf
      have hbl : (bls k fun _ => true) ++ [.bool true] = bls (k + 1) fun _ => true := bls_snoc k fun _ => true
      have HBL := Lib.hid hbl
      clear hb hf hbl
      go_wp2_with (at_builtin; refine wpList_append_own _ rfl _ _ 75 rfl w.heap.size 4 i0 (.bool false) 1 1 Tryd.underlying75 hii hz0 hz1 hz2 rfl (by omega) _ k _ rfl (own_fr0 HB.out (Fr.alloc (Fr.refl _ _) _)) ⟨wr.heap.size, 0, none⟩ 1 1 [.bool true] rfl rfl (cell_one_new _ _ _) (by simp [Value.oneCell']) (by unfold maxLen; omega) (by omega) (by simp; omega) ?_; intro v1 w1 hown1 hg1 _)
      have h1 : Fr [] w w1 := Fr.app (HF.out.alloc _) hg1 (own_fr0 HB.out (Fr.alloc (Fr.refl _ _) _)) (Nat.le_refl _)
      rw [HBL.out] at hown1
      have HO := Lib.hid hown1
      clear hown1 hg1 HB
      go_wp2
      go_roundw
      case rel => exact ⟨k + 1, by omega, by go_num, HO.out, h1⟩
      case measure => simp [intOf]; omega
    · obtain rfl : k = per := by omega
      go_wp2
      go_ret
      exact ⟨_, rfl, hb, hf⟩
end Go.Proofs.YtggcmeoafbmckaaDoor
