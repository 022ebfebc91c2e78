/-
  What the reference of layer 13 computes: Put, Take, how many are free, the pages' numbers, two lists alike. Condition: at most 1024 pages, 16 slots.
-/



import Derived.Test.YtggcmeoafbmckaaDoorRef3
import Derived.Deep.RegionHeld3
set_option linter.unusedVariables false
namespace Go.Proofs.YtggcmeoafbmckaaDoor
open Go.ChangeShapes Go.WideShapes Go.ChangeAt Go.RowKit
set_option maxHeartbeats 1000000 in
set_option maxRecDepth 100000 in
theorem r13put_no {w : World} {per : Nat} {v : Value} {P : List (Nat × Value)} (h : Rp 0 w v P) (hP : P.length ≤ 1024) (p s : Int) (hi : fis (P.map (·.1)) p = false ∨ s < 0 ∨ (per : Int) ≤ s) :
    Calls Tryd.prog 19 #[.agg #[.int .i64 per, v], .int .i64 p, .int .i64 s] w fun r w' => r = .returned (.tuple #[.agg #[.int .i64 per, v], .bool false]) ∧ Fr [] w w' := by
  have C := Lib.hid fun (W : World) (hW : Fr [] w W) => r13find_any (per := per) (own_fr0 h hW) hP p
  obtain ⟨k, hkk⟩ : ∃ k, fnd (P.map (·.1)) p = k := ⟨_, rfl⟩
  obtain ⟨x, hx⟩ : ∃ x, fis (P.map (·.1)) p = x := ⟨_, rfl⟩
  rw [hkk, hx] at C
  rw [hx] at hi
  obtain ⟨av, cv, rfl, hcv⟩ := own_slice h
  obtain ⟨L, hL⟩ : ∃ L, P.length = L := ⟨_, rfl⟩
  rw [hL] at C hcv ⊢
  clear h hkk hx hL hP
  cases x
  · clear hi
    go_enter Tryd.func19, Tryd.ntmps19
    go_wp2_with fail
    refine Calls.mono (C.out _ ?_) ?_
    · exact (by repeat (first | exact Fr.refl _ _ | assumption | refine Fr.trans0 ?_ (by assumption) | refine Fr.drewN ?_ _ | refine Fr.alloc ?_ _ | refine Fr.drew ?_))
    rintro e w2 ⟨rfl, hf2⟩
    have F2 : Fr [] w w2 := Fr.trans0 (by repeat (first | exact Fr.refl _ _ | assumption | refine Fr.trans0 ?_ (by assumption) | refine Fr.drewN ?_ _ | refine Fr.alloc ?_ _ | refine Fr.drew ?_)) hf2
    have a0 := (At.new w 43 #[.int .i64 per, .slice av L cv]).fr (S := []) (w' := w2) (Fr.trans0 (by repeat (first | exact Fr.refl _ _ | assumption | refine Fr.trans0 ?_ (by assumption) | refine Fr.drewN ?_ _ | refine Fr.alloc ?_ _ | refine Fr.drew ?_)) hf2) (by simp)
    have a1 := (At.new (w.alloc (.cells #[.int .i64 per, .slice av L cv] 43)) 43 #[.int .i64 0, .slice none 0 0]).fr (S := []) (w' := w2) (Fr.trans0 (by repeat (first | exact Fr.refl _ _ | assumption | refine Fr.trans0 ?_ (by assumption) | refine Fr.drewN ?_ _ | refine Fr.alloc ?_ _ | refine Fr.drew ?_)) hf2) (by simp)
    simp only [World.size_alloc] at a1
    have c0 := a0.cell 0
    have c1 := a0.cell 1
    have d0 := a1.cell 0
    have d1 := a1.cell 1
    have f0 := a1.froz 0
    have f1 := a1.froz 1
    simp only [List.getElem?_toArray, List.getElem?_cons_zero, List.getElem?_cons_succ] at c0 c1 d0 d1
    have q := (a1.set 0 (.int .i64 per)).set 1 (.slice av L cv)
    have q0 := q.cell 0
    have q1 := q.cell 1
    simp only [List.getElem?_toArray, List.getElem?_cons_zero, List.getElem?_cons_succ, List.setIfInBounds_toArray, List.set_cons_zero, List.set_cons_succ] at q0 q1
    clear hf2 a0 a1 q
    go_wp2
    exact bodyPost_ret (v := .tuple #[.agg #[.int .i64 per, .slice av L cv], .bool false]) (by simp [results, Tryd.results19, go_sem, q0, q1]) rfl ⟨rfl, (F2.set (.inr (by show w.heap.size ≤ w.heap.size + 1; omega)) _).set (.inr (by show w.heap.size ≤ w.heap.size + 1; omega)) _⟩
  · by_cases h1 : s < 0
    · clear hi
      go_enter Tryd.func19, Tryd.ntmps19
      go_wp2_with fail
      refine Calls.mono (C.out _ ?_) ?_
      · exact (by repeat (first | exact Fr.refl _ _ | assumption | refine Fr.trans0 ?_ (by assumption) | refine Fr.drewN ?_ _ | refine Fr.alloc ?_ _ | refine Fr.drew ?_))
      rintro e w2 ⟨rfl, hf2⟩
      have F2 : Fr [] w w2 := Fr.trans0 (by repeat (first | exact Fr.refl _ _ | assumption | refine Fr.trans0 ?_ (by assumption) | refine Fr.drewN ?_ _ | refine Fr.alloc ?_ _ | refine Fr.drew ?_)) hf2
      have a0 := (At.new w 43 #[.int .i64 per, .slice av L cv]).fr (S := []) (w' := w2) (Fr.trans0 (by repeat (first | exact Fr.refl _ _ | assumption | refine Fr.trans0 ?_ (by assumption) | refine Fr.drewN ?_ _ | refine Fr.alloc ?_ _ | refine Fr.drew ?_)) hf2) (by simp)
      have a1 := (At.new (w.alloc (.cells #[.int .i64 per, .slice av L cv] 43)) 43 #[.int .i64 0, .slice none 0 0]).fr (S := []) (w' := w2) (Fr.trans0 (by repeat (first | exact Fr.refl _ _ | assumption | refine Fr.trans0 ?_ (by assumption) | refine Fr.drewN ?_ _ | refine Fr.alloc ?_ _ | refine Fr.drew ?_)) hf2) (by simp)
      simp only [World.size_alloc] at a1
      have c0 := a0.cell 0
      have c1 := a0.cell 1
      have d0 := a1.cell 0
      have d1 := a1.cell 1
      have f0 := a1.froz 0
      have f1 := a1.froz 1
      simp only [List.getElem?_toArray, List.getElem?_cons_zero, List.getElem?_cons_succ] at c0 c1 d0 d1
      have q := (a1.set 0 (.int .i64 per)).set 1 (.slice av L cv)
      have q0 := q.cell 0
      have q1 := q.cell 1
      simp only [List.getElem?_toArray, List.getElem?_cons_zero, List.getElem?_cons_succ, List.setIfInBounds_toArray, List.set_cons_zero, List.set_cons_succ] at q0 q1
      clear hf2 a0 a1 q
      go_wp2
      exact bodyPost_ret (v := .tuple #[.agg #[.int .i64 per, .slice av L cv], .bool false]) (by simp [results, Tryd.results19, go_sem, q0, q1]) rfl ⟨rfl, (F2.set (.inr (by show w.heap.size ≤ w.heap.size + 1; omega)) _).set (.inr (by show w.heap.size ≤ w.heap.size + 1; omega)) _⟩
    · have h2 : (per : Int) ≤ s := by rcases hi with hi | hi | hi <;> first | cases hi | omega
      have hd : decide (s < 0) = false := by simp; omega
      have hd2 : decide ((per : Int) ≤ s) = true := by simp; omega
      clear hi
      go_enter Tryd.func19, Tryd.ntmps19
      go_wp2_with fail
      refine Calls.mono (C.out _ ?_) ?_
      · exact (by repeat (first | exact Fr.refl _ _ | assumption | refine Fr.trans0 ?_ (by assumption) | refine Fr.drewN ?_ _ | refine Fr.alloc ?_ _ | refine Fr.drew ?_))
      rintro e w2 ⟨rfl, hf2⟩
      have F2 : Fr [] w w2 := Fr.trans0 (by repeat (first | exact Fr.refl _ _ | assumption | refine Fr.trans0 ?_ (by assumption) | refine Fr.drewN ?_ _ | refine Fr.alloc ?_ _ | refine Fr.drew ?_)) hf2
      have a0 := (At.new w 43 #[.int .i64 per, .slice av L cv]).fr (S := []) (w' := w2) (Fr.trans0 (by repeat (first | exact Fr.refl _ _ | assumption | refine Fr.trans0 ?_ (by assumption) | refine Fr.drewN ?_ _ | refine Fr.alloc ?_ _ | refine Fr.drew ?_)) hf2) (by simp)
      have a1 := (At.new (w.alloc (.cells #[.int .i64 per, .slice av L cv] 43)) 43 #[.int .i64 0, .slice none 0 0]).fr (S := []) (w' := w2) (Fr.trans0 (by repeat (first | exact Fr.refl _ _ | assumption | refine Fr.trans0 ?_ (by assumption) | refine Fr.drewN ?_ _ | refine Fr.alloc ?_ _ | refine Fr.drew ?_)) hf2) (by simp)
      simp only [World.size_alloc] at a1
      have c0 := a0.cell 0
      have c1 := a0.cell 1
      have d0 := a1.cell 0
      have d1 := a1.cell 1
      have f0 := a1.froz 0
      have f1 := a1.froz 1
      simp only [List.getElem?_toArray, List.getElem?_cons_zero, List.getElem?_cons_succ] at c0 c1 d0 d1
      have q := (a1.set 0 (.int .i64 per)).set 1 (.slice av L cv)
      have q0 := q.cell 0
      have q1 := q.cell 1
      simp only [List.getElem?_toArray, List.getElem?_cons_zero, List.getElem?_cons_succ, List.setIfInBounds_toArray, List.set_cons_zero, List.set_cons_succ] at q0 q1
      clear hf2 a0 a1 q
      go_wp2
      exact bodyPost_ret (v := .tuple #[.agg #[.int .i64 per, .slice av L cv], .bool false]) (by simp [results, Tryd.results19, go_sem, q0, q1]) rfl ⟨rfl, (F2.set (.inr (by show w.heap.size ≤ w.heap.size + 1; omega)) _).set (.inr (by show w.heap.size ≤ w.heap.size + 1; omega)) _⟩
set_option maxHeartbeats 1000000 in
set_option maxRecDepth 100000 in
theorem r13put_taken {w : World} {per : Nat} {v : Value} {P : List (Nat × Value)} (h : Rp 0 w v P) (hP : P.length ≤ 1024) (p : Int) (k n : Nat) (u : Value) (f : Nat → Bool) (hk : fnd (P.map (·.1)) p = k) (hi : fis (P.map (·.1)) p = true) (hx : P[k]? = some (n, u)) (hu : Bs 0 w u per f) (hper : per ≤ 16) (s : Nat) (hs : s < per) (hf : f s = true) :
    Calls Tryd.prog 19 #[.agg #[.int .i64 per, v], .int .i64 p, .int .i64 s] w fun r w' => r = .returned (.tuple #[.agg #[.int .i64 per, v], .bool false]) ∧ Fr [] w w' := by
  have C := Lib.hid fun (W : World) (hW : Fr [] w W) => r13find_any (per := per) (own_fr0 h hW) hP p
  rw [hk, hi] at C
  have hkl := (List.getElem?_eq_some_iff.1 hx).1
  obtain ⟨g, cv, rfl, hcv, _, hgw, hcell, _⟩ := own_openS h (by omega)
  obtain ⟨gu, cu, rfl, hcu, _, huw, hucell, _⟩ := own_open hu (by omega)
  have K1 := Lib.hid ((hcell (k * 2 + 1) (by omega)).trans (pcs_get P k _ hx).2)
  have U1 := Lib.hid ((hucell s hs).trans (bls_get per f s hs))
  obtain ⟨L, hL⟩ : ∃ L, P.length = L := ⟨_, rfl⟩
  rw [hL] at C hcv hkl hP ⊢
  have hd : decide ((s : Int) < 0) = false := by simp
  have hd2 : decide ((per : Int) ≤ s) = false := by simp; omega
  rw [hf] at U1
  clear h hk hi hL hcell hucell hx hu hf
  go_enter Tryd.func19, Tryd.ntmps19
  go_wp2_with fail
  refine Calls.mono (C.out _ ?_) ?_
  · exact (by repeat (first | exact Fr.refl _ _ | assumption | refine Fr.trans0 ?_ (by assumption) | refine Fr.drewN ?_ _ | refine Fr.alloc ?_ _ | refine Fr.drew ?_))
  rintro e w2 ⟨rfl, hf2⟩
  have F2 : Fr [] w w2 := Fr.trans0 (by repeat (first | exact Fr.refl _ _ | assumption | refine Fr.trans0 ?_ (by assumption) | refine Fr.drewN ?_ _ | refine Fr.alloc ?_ _ | refine Fr.drew ?_)) hf2
  have a0 := (At.new w 43 #[.int .i64 per, .slice (some ⟨g, 0, none⟩) L cv]).fr (S := []) (w' := w2) (Fr.trans0 (by repeat (first | exact Fr.refl _ _ | assumption | refine Fr.trans0 ?_ (by assumption) | refine Fr.drewN ?_ _ | refine Fr.alloc ?_ _ | refine Fr.drew ?_)) hf2) (by simp)
  have a1 := (At.new (w.alloc (.cells #[.int .i64 per, .slice (some ⟨g, 0, none⟩) L cv] 43)) 43 #[.int .i64 0, .slice none 0 0]).fr (S := []) (w' := w2) (Fr.trans0 (by repeat (first | exact Fr.refl _ _ | assumption | refine Fr.trans0 ?_ (by assumption) | refine Fr.drewN ?_ _ | refine Fr.alloc ?_ _ | refine Fr.drew ?_)) hf2) (by simp)
  simp only [World.size_alloc] at a1
  have c0 := a0.cell 0
  have c1 := a0.cell 1
  have d0 := a1.cell 0
  have d1 := a1.cell 1
  have f0 := a1.froz 0
  have f1 := a1.froz 1
  simp only [List.getElem?_toArray, List.getElem?_cons_zero, List.getElem?_cons_succ] at c0 c1 d0 d1
  have k1 := (F2.cell (a := ⟨g, k * 2 + 1, none⟩) hgw (by simp)).trans K1.out
  have u1 := (F2.cell (a := ⟨gu, s, none⟩) huw (by simp)).trans U1.out
  have q := (a1.set 0 (.int .i64 per)).set 1 (.slice (some ⟨g, 0, none⟩) L cv)
  have q0 := q.cell 0
  have q1 := q.cell 1
  simp only [List.getElem?_toArray, List.getElem?_cons_zero, List.getElem?_cons_succ, List.setIfInBounds_toArray, List.set_cons_zero, List.set_cons_succ] at q0 q1
  clear hf2 a0 a1 q
  go_wp2
  exact bodyPost_ret (v := .tuple #[.agg #[.int .i64 per, .slice (some ⟨g, 0, none⟩) L cv], .bool false]) (by simp [results, Tryd.results19, go_sem, q0, q1]) rfl ⟨rfl, (F2.set (.inr (by show w.heap.size ≤ w.heap.size + 1; omega)) _).set (.inr (by show w.heap.size ≤ w.heap.size + 1; omega)) _⟩
set_option maxHeartbeats 1000000 in
set_option maxRecDepth 100000 in
theorem r13put_yes {w : World} {per : Nat} {v : Value} {P : List (Nat × Value)} (h : Rp 0 w v P) (hS : ∀ x ∈ P, SlV x.2) (hP : P.length ≤ 1024) (p : Int) (k n : Nat) (u : Value) (f : Nat → Bool) (hk : fnd (P.map (·.1)) p = k) (hi : fis (P.map (·.1)) p = true) (hx : P[k]? = some (n, u)) (hu : Bs 0 w u per f) (hper : per ≤ 16) (s : Nat) (hs : s < per) (hf : f s = false) :
    Calls Tryd.prog 19 #[.agg #[.int .i64 per, v], .int .i64 p, .int .i64 s] w fun r w' => ∃ v' u', r = .returned (.tuple #[.agg #[.int .i64 per, v'], .bool true]) ∧ Rp 0 w' v' (P.set k (n, u')) ∧ Bs 0 w' u' per (upd f s true) ∧ Fr [] w w' := by
  have CW := Lib.hid fun (W : World) (hW : Fr [] w W) => r13with_any (per := per) (own_fr0 h hW) hS hP k n u f hx (own_fr0 hu hW) hper s hs true
  have C := Lib.hid fun (W : World) (hW : Fr [] w W) => r13find_any (per := per) (own_fr0 h hW) hP p
  rw [hk, hi] at C
  have hkl := (List.getElem?_eq_some_iff.1 hx).1
  obtain ⟨g, cv, rfl, hcv, _, hgw, hcell, _⟩ := own_openS h (by omega)
  obtain ⟨gu, cu, rfl, hcu, _, huw, hucell, _⟩ := own_open hu (by omega)
  have K1 := Lib.hid ((hcell (k * 2 + 1) (by omega)).trans (pcs_get P k _ hx).2)
  have U1 := Lib.hid ((hucell s hs).trans (bls_get per f s hs))
  obtain ⟨L, hL⟩ : ∃ L, P.length = L := ⟨_, rfl⟩
  rw [hL] at C hcv hkl hP ⊢
  have hd : decide ((s : Int) < 0) = false := by simp
  have hd2 : decide ((per : Int) ≤ s) = false := by simp; omega
  rw [hL] at CW
  rw [hf] at U1
  clear h hk hi hL hcell hucell hx hu hf
  go_enter Tryd.func19, Tryd.ntmps19
  go_wp2_with fail
  refine Calls.mono (C.out _ ?_) ?_
  · exact (by repeat (first | exact Fr.refl _ _ | assumption | refine Fr.trans0 ?_ (by assumption) | refine Fr.drewN ?_ _ | refine Fr.alloc ?_ _ | refine Fr.drew ?_))
  rintro e w2 ⟨rfl, hf2⟩
  have F2 : Fr [] w w2 := Fr.trans0 (by repeat (first | exact Fr.refl _ _ | assumption | refine Fr.trans0 ?_ (by assumption) | refine Fr.drewN ?_ _ | refine Fr.alloc ?_ _ | refine Fr.drew ?_)) hf2
  have a0 := (At.new w 43 #[.int .i64 per, .slice (some ⟨g, 0, none⟩) L cv]).fr (S := []) (w' := w2) (Fr.trans0 (by repeat (first | exact Fr.refl _ _ | assumption | refine Fr.trans0 ?_ (by assumption) | refine Fr.drewN ?_ _ | refine Fr.alloc ?_ _ | refine Fr.drew ?_)) hf2) (by simp)
  have a1 := (At.new (w.alloc (.cells #[.int .i64 per, .slice (some ⟨g, 0, none⟩) L cv] 43)) 43 #[.int .i64 0, .slice none 0 0]).fr (S := []) (w' := w2) (Fr.trans0 (by repeat (first | exact Fr.refl _ _ | assumption | refine Fr.trans0 ?_ (by assumption) | refine Fr.drewN ?_ _ | refine Fr.alloc ?_ _ | refine Fr.drew ?_)) hf2) (by simp)
  simp only [World.size_alloc] at a1
  have c0 := a0.cell 0
  have c1 := a0.cell 1
  have d0 := a1.cell 0
  have d1 := a1.cell 1
  have f0 := a1.froz 0
  have f1 := a1.froz 1
  simp only [List.getElem?_toArray, List.getElem?_cons_zero, List.getElem?_cons_succ] at c0 c1 d0 d1
  have k1 := (F2.cell (a := ⟨g, k * 2 + 1, none⟩) hgw (by simp)).trans K1.out
  have u1 := (F2.cell (a := ⟨gu, s, none⟩) huw (by simp)).trans U1.out
  have A1 := Lib.hid a1
  have HF2 := Lib.hid F2
  clear a0 a1 hf2 F2
  go_wp2_with fail
  refine Calls.mono (CW.out _ HF2.out) ?_
  rintro e w3 ⟨v', u', rfl, h3, hu3, hf3⟩
  obtain ⟨av', cv', rfl, hcv'⟩ := own_slice h3
  have A3 := Lib.hid (A1.out.fr hf3 (by simp))
  have H3 := Lib.hid h3
  have HU3 := Lib.hid hu3
  have HF3 := Lib.hid (HF2.out.trans0 hf3)
  have d0 := A3.out.cell 0
  have d1 := A3.out.cell 1
  have f0 := A3.out.froz 0
  have f1 := A3.out.froz 1
  obtain ⟨L3, hL3⟩ : ∃ L, (P.set k (n, u')).length = L := ⟨_, rfl⟩
  rw [hL3] at hcv' ⊢
  have HL3 := Lib.hid hL3
  have q := (A3.out.set 0 (.int .i64 per)).set 1 (.slice av' L3 cv')
  have q0 := q.cell 0
  have q1 := q.cell 1
  simp only [List.getElem?_toArray, List.getElem?_cons_zero, List.getElem?_cons_succ] at d0 d1
  simp only [List.getElem?_toArray, List.getElem?_cons_zero, List.getElem?_cons_succ, List.setIfInBounds_toArray, List.set_cons_zero, List.set_cons_succ] at q0 q1
  clear h3 hu3 hf3 hL3 q
  go_wp2
  have hfs : Fr [w.heap.size + 1] w3 ((w3.setCell ⟨w.heap.size + 1, 0, none⟩ (.int .i64 per)).setCell ⟨w.heap.size + 1, 1, none⟩ (.slice av' L3 cv')) := ((Fr.refl _ _).set (.inl (by simp)) _).set (.inl (by simp)) _
  refine bodyPost_ret (v := .tuple #[.agg #[.int .i64 per, .slice av' L3 cv'], .bool true]) (by simp [results, Tryd.results19, go_sem, q0, q1]) rfl ⟨_, u', rfl, ?_, ?_, ?_⟩
  · have hr := own_fr H3.out hfs (fun g hg hm => by simp at hm; exact own_ne H3.out A3.out (by decide) g hg hm)
    rw [HL3.out] at hr
    unfold Rp
    rw [HL3.out]
    exact hr
  · exact own_fr HU3.out hfs (fun g hg hm => by simp at hm; exact own_ne HU3.out A3.out (by decide) g hg hm)
  · exact HF3.out.trans hfs (by simp)
end Go.Proofs.YtggcmeoafbmckaaDoor
