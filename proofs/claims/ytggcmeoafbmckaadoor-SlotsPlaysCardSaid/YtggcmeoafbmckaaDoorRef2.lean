/-
  What the reference of layer 13 computes: a page comes, goes, a slot is taken or put back. Condition: at most 1024 pages, 16 slots.
-/



import Derived.Test.YtggcmeoafbmckaaDoorRef
import Derived.Deep.RegionHeld3
set_option linter.unusedVariables false
namespace Go.Proofs.YtggcmeoafbmckaaDoor
open Go.ChangeShapes Go.WideShapes Go.ChangeAt Go.RowKit
theorem infoPgS : (Tryd.prog.info? 78).map (fun i => i.size) = some 2 := by kernel_rfl
theorem SrcAt.new2 (w : World) (a b : Value) (T : TypeId) (m c : Nat) : SrcAt (w.alloc (.cells #[a, b] T)) (.slice (some ⟨w.heap.size, 0, none⟩) m c) m [a, b] := by
  refine SrcAt.mk fun j u hj => ?_
  rw [Go.WideShapes.add_plain, Nat.zero_add, (At.new w T #[a, b]).cell, List.getElem?_toArray]; exact hj
theorem pcs_came (P : List (Nat × Value)) (k p : Nat) (u : Value) : pcs (P.take k ++ (p, u) :: P.drop k) = pcs (P.take k) ++ [.int .i64 p, u] ++ pcs (P.drop k) := by
  rw [pcs_append, List.append_assoc]; rfl
theorem came_len (P : List (Nat × Value)) (k p : Nat) (u : Value) (L : Nat) (hL : P.length = L) (hk : k ≤ L) : (P.take k ++ (p, u) :: P.drop k).length = k + 1 + (L - k) := by
  simp only [List.length_append, List.length_take, List.length_cons, List.length_drop]; omega
set_option maxHeartbeats 1000000 in
set_option maxRecDepth 100000 in
theorem r13add_yes {w : World} {per : Nat} {v : Value} {P : List (Nat × Value)} (h : Rp 0 w v P) (hS : ∀ x ∈ P, SlV x.2) (hP : P.length ≤ 1024) (p : Nat) (hp : p < 1024) (hper : per ≤ 16) (hi : fis (P.map (·.1)) p = false) :
    Calls Tryd.prog 17 #[.agg #[.int .i64 per, v], .int .i64 p] w fun r w' => ∃ v' vn, r = .returned (.tuple #[.agg #[.int .i64 per, v'], .bool true]) ∧ Rp 0 w' v' (P.take (fnd (P.map (·.1)) p) ++ (p, vn) :: P.drop (fnd (P.map (·.1)) p)) ∧ Bs 0 w' vn per (fun _ => true) ∧ Fr [] w w' := by
  obtain ⟨i0, hii, hz0, hz1, hz2⟩ := info_parts infoPg
  have hkL := fnd_le (P.map (·.1)) p
  rw [List.length_map] at hkL
  have C := Lib.hid fun (W : World) (hW : Fr [] w W) => r13find_any (per := per) (own_fr0 h hW) hP p
  rw [hi] at C
  have CA := Lib.hid fun W => r13all_any (w := W) per hper
  obtain ⟨k, hkk⟩ : ∃ k, fnd (P.map (·.1)) p = k := ⟨_, rfl⟩
  rw [hkk] at C hkL ⊢
  clear hkk hi
  obtain ⟨s1, hr1, hs1⟩ := slice_upto (P := Tryd.prog) Tryd.underlying41 infoPgS h k hkL
  obtain ⟨s2, hr2, hs2⟩ := slice_from (P := Tryd.prog) Tryd.underlying41 infoPgS h k hkL
  rw [pcs_take P k hkL] at hs1
  rw [pcs_drop P k hkL] at hs2
  have l1 : (pcs (P.take k)).length = k * 2 := by rw [pcs_len, List.length_take, Nat.min_eq_left hkL]
  have l2 : (pcs (P.drop k)).length = (P.length - k) * 2 := by rw [pcs_len, List.length_drop]
  have o1 := Lib.hid (pcs_one (P.take k) fun x hx => hS x (List.mem_of_mem_take hx))
  have o2 := Lib.hid (pcs_one (P.drop k) fun x hx => hS x (List.mem_of_mem_drop hx))
  have L1 := Lib.hid l1
  have L2 := Lib.hid l2
  have HS1 := Lib.hid hs1
  have HS2 := Lib.hid hs2
  obtain ⟨av, cv, rfl, hcv⟩ := own_slice h
  obtain ⟨L, hL⟩ : ∃ L, P.length = L := ⟨_, rfl⟩
  have HL := Lib.hid hL
  rw [hL] at C hP hkL hr1 hr2 L2 HS2 hcv ⊢
  clear h hS l1 l2 hs1 hs2 hL
  go_enter Tryd.func17, Tryd.ntmps17
  go_wp2_with fail
  refine Calls.mono (C.out _ ?_) ?_
  · exact (by repeat (first | exact Fr.refl _ _ | assumption | refine Fr.trans0 ?_ (by assumption) | refine Fr.drewN ?_ _ | refine Fr.alloc ?_ _ | refine Fr.drew ?_))
  rintro e w2 ⟨rfl, hf2⟩
  have F2 : Fr [] w w2 := Fr.trans0 (by repeat (first | exact Fr.refl _ _ | assumption | refine Fr.trans0 ?_ (by assumption) | refine Fr.drewN ?_ _ | refine Fr.alloc ?_ _ | refine Fr.drew ?_)) hf2
  have a0 := (At.new w 43 #[.int .i64 per, .slice av L cv]).fr (S := []) (w' := w2) (Fr.trans0 (by repeat (first | exact Fr.refl _ _ | assumption | refine Fr.trans0 ?_ (by assumption) | refine Fr.drewN ?_ _ | refine Fr.alloc ?_ _ | refine Fr.drew ?_)) hf2) (by simp)
  have a1 := (At.new (w.alloc (.cells #[.int .i64 per, .slice av L cv] 43)) 43 #[.int .i64 0, .slice none 0 0]).fr (S := []) (w' := w2) (Fr.trans0 (by repeat (first | exact Fr.refl _ _ | assumption | refine Fr.trans0 ?_ (by assumption) | refine Fr.drewN ?_ _ | refine Fr.alloc ?_ _ | refine Fr.drew ?_)) hf2) (by simp)
  simp only [World.size_alloc] at a1
  have c0 := a0.cell 0
  have c1 := a0.cell 1
  simp only [List.getElem?_toArray, List.getElem?_cons_zero, List.getElem?_cons_succ] at c0 c1
  have A0 := Lib.hid a0
  have A1 := Lib.hid a1
  have HF2 := Lib.hid F2
  have hsz2 := F2.size
  clear a0 a1 hf2 F2 C
  go_wp2_with (at_builtin; (refine wpList_append_src rfl (.tmp 25) (.tmp 29) 41 rfl w.heap.size 78 i0 (.agg #[.int .i64 0, .slice none 0 0]) 2 32 Tryd.underlying41 hii hz0 hz1 hz2 rfl (by omega) (.slice none 0 0) 0 [] ?_ (World.ownsRow_nil _ _ _ _) s1 k (pcs (P.take k)) ?_ (HS1.out.fr0 HF2.out) L1.out o1.out ?_ ?_ ?_ ?_); (rfl); (rfl); (unfold maxLen; omega); (omega); (first | omega | (simp; omega)); intro v1 w3 hown1 hg1 _; simp only [List.nil_append, Nat.zero_add] at hown1; have hf3 : Fr [] w2 w3 := Fr.grown hg1; have HO1 := Lib.hid hown1; have A0' := Lib.hid (A0.out.fr hf3 (by simp)); have A1' := Lib.hid (A1.out.fr hf3 (by simp)); have HF3 := Lib.hid (HF2.out.trans0 hf3); have c0 := A0'.out.cell 0; have c1 := A0'.out.cell 1; simp only [List.getElem?_toArray, List.getElem?_cons_zero, List.getElem?_cons_succ] at c0 c1; clear hown1 hg1 hf3 A0 A1 HF2)
  refine (CA.out _).mono ?_
  rintro e w4 ⟨va, rfl, hva, hf4⟩
  obtain ⟨ava, cva, rfl, hcva⟩ := own_slice hva
  have HO4 := Lib.hid (own_fr0 HO1.out hf4)
  have A04 := Lib.hid (A0'.out.fr hf4 (by simp))
  have A14 := Lib.hid (A1'.out.fr hf4 (by simp))
  have HF4 := Lib.hid (HF3.out.trans0 hf4)
  have hsz4 := HF4.out.size
  have VA := Lib.hid (own_base hva (Nat.zero_le _))
  have c0 := A04.out.cell 0
  have c1 := A04.out.cell 1
  simp only [List.getElem?_toArray, List.getElem?_cons_zero, List.getElem?_cons_succ] at c0 c1
  clear hva hf4 HO1 A0' A1' HF3 CA
  have hl14 := A14.out.lt
  go_wp2_with (first | (at_builtin; (refine wpList_append_src rfl (.tmp 31) (.tmp 37) 41 rfl w.heap.size 78 i0 (.agg #[.int .i64 0, .slice none 0 0]) 2 32 Tryd.underlying41 hii hz0 hz1 hz2 rfl (by omega) v1 k (pcs (P.take k)) ?_ (own_fr0 HO4.out (Fr.alloc (Fr.refl _ _) _)) (.slice (some ⟨w4.heap.size, 0, none⟩) 1 1) 1 [.int .i64 p, .slice ava per cva] ?_ (SrcAt.new2 _ _ _ _ _ _) rfl (by intro u hu; simp only [List.mem_cons, List.not_mem_nil, or_false] at hu; rcases hu with rfl | rfl <;> rfl) ?_ ?_ ?_ ?_); (rfl); (rfl); (unfold maxLen; omega); (omega); (first | omega | (simp; omega)); intro v2 w5 hown2 hg2 _; have hoA := own_fr0 HO4.out (Fr.alloc (Fr.refl [] w4) (.cells #[.int .i64 p, .slice ava per cva] 78)); have hf5 : Fr [] w w5 := Fr.app (HF4.out.alloc _) hg2 hoA (Nat.le_refl _); have HO5 := Lib.hid hown2; have A05 := Lib.hid ((A04.out.old _).fr (Fr.grown hg2) (own_toList hoA (A04.out.old _) (by decide))); have A15 := Lib.hid ((A14.out.old _).fr (Fr.grown hg2) (own_toList hoA (A14.out.old _) (by decide))); have VA5 := Lib.hid (own_fr (own_fr0 VA.out (Fr.alloc (Fr.refl [] w4) (.cells #[.int .i64 p, .slice ava per cva] 78))) (Fr.grown hg2) (own_apart (own_fr0 VA.out (Fr.alloc (Fr.refl [] w4) _)) hoA (by decide))); have HF5 := Lib.hid hf5; have hsz5 := hf5.size; have c0 := A05.out.cell 0; have c1 := A05.out.cell 1; simp only [List.getElem?_toArray, List.getElem?_cons_zero, List.getElem?_cons_succ] at c0 c1; clear hown2 hg2 hoA hf5) | (at_builtin; (refine wpList_append_src rfl (.tmp 39) (.tmp 43) 41 rfl w.heap.size 78 i0 (.agg #[.int .i64 0, .slice none 0 0]) 2 32 Tryd.underlying41 hii hz0 hz1 hz2 rfl (by omega) v2 (k + 1) (pcs (P.take k) ++ [.int .i64 p, .slice ava per cva]) ?_ HO5.out s2 (L - k) (pcs (P.drop k)) ?_ (HS2.out.fr0 HF5.out) L2.out o2.out ?_ ?_ ?_ ?_); (rfl); (rfl); (unfold maxLen; omega); (omega); (first | omega | (simp; omega)); intro v3 w6 hown3 hg3 _; have HF6 := Lib.hid (HF5.out.app hg3 HO5.out (Nat.le_refl _)); have A06 := Lib.hid (A05.out.fr (Fr.grown hg3) (own_toList HO5.out A05.out (by decide))); have A16 := Lib.hid (A15.out.fr (Fr.grown hg3) (own_toList HO5.out A15.out (by decide))); have VA6 := Lib.hid (own_fr VA5.out (Fr.grown hg3) (own_apart VA5.out HO5.out (by decide))); have HO6 := Lib.hid hown3; have c0 := A06.out.cell 0; have f0 := A16.out.froz 0; have f1 := A16.out.froz 1; have d0 := A16.out.cell 0; have d1 := A16.out.cell 1; have q := (A16.out.set 0 (.int .i64 per)).set 1 v3; have q0 := q.cell 0; have q1 := q.cell 1; simp only [List.getElem?_toArray, List.getElem?_cons_zero, List.getElem?_cons_succ] at c0 d0 d1; simp only [List.getElem?_toArray, List.getElem?_cons_zero, List.getElem?_cons_succ, List.setIfInBounds_toArray, List.set_cons_zero, List.set_cons_succ] at q0 q1; obtain ⟨av3, cv3, rfl, hcv3⟩ := own_slice hown3; clear hown3 hg3 q))
  have hfs : Fr [w.heap.size + 1] w6 ((w6.setCell ⟨w.heap.size + 1, 0, none⟩ (.int .i64 per)).setCell ⟨w.heap.size + 1, 1, none⟩ (.slice av3 (k + 1 + (L - k)) cv3)) := ((Fr.refl _ _).set (.inl (by simp)) _).set (.inl (by simp)) _
  refine bodyPost_ret (v := .tuple #[.agg #[.int .i64 per, .slice av3 (k + 1 + (L - k)) cv3], .bool true]) (by simp [results, Tryd.results17, go_sem, q0, q1]) rfl ⟨_, .slice ava per cva, rfl, ?_, ?_, ?_⟩
  · have hr := own_base (own_fr HO6.out hfs (fun g hg hm => by simp at hm; exact own_ne HO6.out A16.out (by decide) g hg hm)) (Nat.zero_le w.heap.size)
    unfold Rp
    rw [pcs_came, came_len P k p _ L HL.out hkL]
    exact hr
  · exact own_fr VA6.out hfs (fun g hg hm => by simp at hm; exact own_ne VA6.out A16.out (by decide) g hg hm)
  · exact HF6.out.trans hfs (by simp)
theorem r13add_no {w : World} {per : Nat} {v : Value} {P : List (Nat × Value)} (h : Rp 0 w v P) (hP : P.length ≤ 1024) (p : Int) (hi : p < 0 ∨ 1024 ≤ p ∨ fis (P.map (·.1)) p = true) :
    Calls Tryd.prog 17 #[.agg #[.int .i64 per, v], .int .i64 p] w fun r w' => r = .returned (.tuple #[.agg #[.int .i64 per, v], .bool false]) ∧ Fr [] w w' := by
  have C := Lib.hid fun (W : World) (hW : Fr [] w W) => r13find_any (per := per) (own_fr0 h hW) hP p
  obtain ⟨k, hkk⟩ : ∃ k, fnd (P.map (·.1)) p = k := ⟨_, rfl⟩
  obtain ⟨x, hx⟩ : ∃ x, fis (P.map (·.1)) p = x := ⟨_, rfl⟩
  rw [hkk, hx] at C
  rw [hx] at hi
  obtain ⟨av, cv, rfl, hcv⟩ := own_slice h
  obtain ⟨L, hL⟩ : ∃ L, P.length = L := ⟨_, rfl⟩
  rw [hL] at C hcv ⊢
  clear h hkk hx hL hP
  by_cases h1 : p < 0
  · clear hi
    go_enter Tryd.func17, Tryd.ntmps17
    go_wp2_with fail
    refine Calls.mono (C.out _ ?_) ?_
    · exact (by repeat (first | exact Fr.refl _ _ | assumption | refine Fr.trans0 ?_ (by assumption) | refine Fr.drewN ?_ _ | refine Fr.alloc ?_ _ | refine Fr.drew ?_))
    rintro e w2 ⟨rfl, hf2⟩
    have F2 : Fr [] w w2 := Fr.trans0 (by repeat (first | exact Fr.refl _ _ | assumption | refine Fr.trans0 ?_ (by assumption) | refine Fr.drewN ?_ _ | refine Fr.alloc ?_ _ | refine Fr.drew ?_)) hf2
    have a0 := (At.new w 43 #[.int .i64 per, .slice av L cv]).fr (S := []) (w' := w2) (Fr.trans0 (by repeat (first | exact Fr.refl _ _ | assumption | refine Fr.trans0 ?_ (by assumption) | refine Fr.drewN ?_ _ | refine Fr.alloc ?_ _ | refine Fr.drew ?_)) hf2) (by simp)
    have a1 := (At.new (w.alloc (.cells #[.int .i64 per, .slice av L cv] 43)) 43 #[.int .i64 0, .slice none 0 0]).fr (S := []) (w' := w2) (Fr.trans0 (by repeat (first | exact Fr.refl _ _ | assumption | refine Fr.trans0 ?_ (by assumption) | refine Fr.drewN ?_ _ | refine Fr.alloc ?_ _ | refine Fr.drew ?_)) hf2) (by simp)
    simp only [World.size_alloc] at a1
    have c0 := a0.cell 0
    have c1 := a0.cell 1
    have d0 := a1.cell 0
    have d1 := a1.cell 1
    have f0 := a1.froz 0
    have f1 := a1.froz 1
    have q := (a1.set 0 (.int .i64 per)).set 1 (.slice av L cv)
    have q0 := q.cell 0
    have q1 := q.cell 1
    simp only [List.getElem?_toArray, List.getElem?_cons_zero, List.getElem?_cons_succ] at c0 c1 d0 d1
    simp only [List.getElem?_toArray, List.getElem?_cons_zero, List.getElem?_cons_succ, List.setIfInBounds_toArray, List.set_cons_zero, List.set_cons_succ] at q0 q1
    clear hf2 a0 a1 q
    go_wp2
    exact bodyPost_ret (v := .tuple #[.agg #[.int .i64 per, .slice av L cv], .bool false]) (by simp [results, Tryd.results17, go_sem, q0, q1]) rfl ⟨rfl, (F2.set (.inr (by show w.heap.size ≤ w.heap.size + 1; omega)) _).set (.inr (by show w.heap.size ≤ w.heap.size + 1; omega)) _⟩
  · by_cases h2 : 1024 ≤ p
    · have hd : decide (p < 0) = false := by simp; omega
      clear hi
      go_enter Tryd.func17, Tryd.ntmps17
      go_wp2_with fail
      refine Calls.mono (C.out _ ?_) ?_
      · exact (by repeat (first | exact Fr.refl _ _ | assumption | refine Fr.trans0 ?_ (by assumption) | refine Fr.drewN ?_ _ | refine Fr.alloc ?_ _ | refine Fr.drew ?_))
      rintro e w2 ⟨rfl, hf2⟩
      have F2 : Fr [] w w2 := Fr.trans0 (by repeat (first | exact Fr.refl _ _ | assumption | refine Fr.trans0 ?_ (by assumption) | refine Fr.drewN ?_ _ | refine Fr.alloc ?_ _ | refine Fr.drew ?_)) hf2
      have a0 := (At.new w 43 #[.int .i64 per, .slice av L cv]).fr (S := []) (w' := w2) (Fr.trans0 (by repeat (first | exact Fr.refl _ _ | assumption | refine Fr.trans0 ?_ (by assumption) | refine Fr.drewN ?_ _ | refine Fr.alloc ?_ _ | refine Fr.drew ?_)) hf2) (by simp)
      have a1 := (At.new (w.alloc (.cells #[.int .i64 per, .slice av L cv] 43)) 43 #[.int .i64 0, .slice none 0 0]).fr (S := []) (w' := w2) (Fr.trans0 (by repeat (first | exact Fr.refl _ _ | assumption | refine Fr.trans0 ?_ (by assumption) | refine Fr.drewN ?_ _ | refine Fr.alloc ?_ _ | refine Fr.drew ?_)) hf2) (by simp)
      simp only [World.size_alloc] at a1
      have c0 := a0.cell 0
      have c1 := a0.cell 1
      have d0 := a1.cell 0
      have d1 := a1.cell 1
      have f0 := a1.froz 0
      have f1 := a1.froz 1
      have q := (a1.set 0 (.int .i64 per)).set 1 (.slice av L cv)
      have q0 := q.cell 0
      have q1 := q.cell 1
      simp only [List.getElem?_toArray, List.getElem?_cons_zero, List.getElem?_cons_succ] at c0 c1 d0 d1
      simp only [List.getElem?_toArray, List.getElem?_cons_zero, List.getElem?_cons_succ, List.setIfInBounds_toArray, List.set_cons_zero, List.set_cons_succ] at q0 q1
      clear hf2 a0 a1 q
      go_wp2
      exact bodyPost_ret (v := .tuple #[.agg #[.int .i64 per, .slice av L cv], .bool false]) (by simp [results, Tryd.results17, go_sem, q0, q1]) rfl ⟨rfl, (F2.set (.inr (by show w.heap.size ≤ w.heap.size + 1; omega)) _).set (.inr (by show w.heap.size ≤ w.heap.size + 1; omega)) _⟩
    · obtain rfl : x = true := by rcases hi with hi | hi | hi <;> first | omega | exact hi
      have hd : decide (p < 0) = false := by simp; omega
      have hd2 : decide (1024 ≤ p) = false := by simp; omega
      clear hi
      go_enter Tryd.func17, Tryd.ntmps17
      go_wp2_with fail
      refine Calls.mono (C.out _ ?_) ?_
      · exact (by repeat (first | exact Fr.refl _ _ | assumption | refine Fr.trans0 ?_ (by assumption) | refine Fr.drewN ?_ _ | refine Fr.alloc ?_ _ | refine Fr.drew ?_))
      rintro e w2 ⟨rfl, hf2⟩
      have F2 : Fr [] w w2 := Fr.trans0 (by repeat (first | exact Fr.refl _ _ | assumption | refine Fr.trans0 ?_ (by assumption) | refine Fr.drewN ?_ _ | refine Fr.alloc ?_ _ | refine Fr.drew ?_)) hf2
      have a0 := (At.new w 43 #[.int .i64 per, .slice av L cv]).fr (S := []) (w' := w2) (Fr.trans0 (by repeat (first | exact Fr.refl _ _ | assumption | refine Fr.trans0 ?_ (by assumption) | refine Fr.drewN ?_ _ | refine Fr.alloc ?_ _ | refine Fr.drew ?_)) hf2) (by simp)
      have a1 := (At.new (w.alloc (.cells #[.int .i64 per, .slice av L cv] 43)) 43 #[.int .i64 0, .slice none 0 0]).fr (S := []) (w' := w2) (Fr.trans0 (by repeat (first | exact Fr.refl _ _ | assumption | refine Fr.trans0 ?_ (by assumption) | refine Fr.drewN ?_ _ | refine Fr.alloc ?_ _ | refine Fr.drew ?_)) hf2) (by simp)
      simp only [World.size_alloc] at a1
      have c0 := a0.cell 0
      have c1 := a0.cell 1
      have d0 := a1.cell 0
      have d1 := a1.cell 1
      have f0 := a1.froz 0
      have f1 := a1.froz 1
      have q := (a1.set 0 (.int .i64 per)).set 1 (.slice av L cv)
      have q0 := q.cell 0
      have q1 := q.cell 1
      simp only [List.getElem?_toArray, List.getElem?_cons_zero, List.getElem?_cons_succ] at c0 c1 d0 d1
      simp only [List.getElem?_toArray, List.getElem?_cons_zero, List.getElem?_cons_succ, List.setIfInBounds_toArray, List.set_cons_zero, List.set_cons_succ] at q0 q1
      clear hf2 a0 a1 q
      go_wp2
      exact bodyPost_ret (v := .tuple #[.agg #[.int .i64 per, .slice av L cv], .bool false]) (by simp [results, Tryd.results17, go_sem, q0, q1]) rfl ⟨rfl, (F2.set (.inr (by show w.heap.size ≤ w.heap.size + 1; omega)) _).set (.inr (by show w.heap.size ≤ w.heap.size + 1; omega)) _⟩
/-! ### free, Whole, Drop -/
theorem r13fr_any {w : World} {n : Int} {v : Value} {m : Nat} {f : Nat → Bool} (h : Bs 0 w v m f) (hm : m ≤ 16) :
    Calls Tryd.prog 39 #[.agg #[.int .i64 n, v]] w fun r w' => r = .returned (.int .i64 (cnt f m : Nat)) ∧ Fr [] w w' := by
  obtain ⟨av, cv, rfl, hcv⟩ := own_slice h
  have hop := Lib.hid fun (hn : 0 < m) => own_open h hn
  have hA := At.new w 78 #[.int .i64 n, .slice av m cv]
  have c1 := hA.cell 1
  simp only [List.getElem?_toArray, List.getElem?_cons_zero, List.getElem?_cons_succ] at c1
  have hfa : Fr [] w (w.alloc (.cells #[.int .i64 n, .slice av m cv] 78)) := (by repeat (first | exact Fr.refl _ _ | assumption | refine Fr.trans0 ?_ (by assumption) | refine Fr.drewN ?_ _ | refine Fr.alloc ?_ _ | refine Fr.drew ?_))
  have HF := Lib.hid hfa
  clear hfa h hA
  go_enter Tryd.func39, Tryd.ntmps39
  go_wp2
  go_loop [3, 4] (fun c i => ∃ t : Nat, t ≤ m ∧ i = .int .i64 t ∧ c = .int .i64 (cnt f t : Nat)) (fun _ i => m - (intOf i).toNat)
  case atStart => exact ⟨0, by omega, rfl, rfl⟩
  case round =>
    obtain ⟨t, ht, rfl, rfl⟩ := hrel
    have hcl := cnt_le f t
    by_cases htn : t < m
    · obtain ⟨g, c, hv, _, _, hgw, hcell, _⟩ := hop.out (by omega)
      injection hv with hv1 hv2 hv3
      subst hv1 hv3
      have hct := (HF.out.cell (a := ⟨g, t, none⟩) hgw (by simp)).trans ((hcell t htn).trans (bls_get m f t htn))
      clear hcell
      cases hft : f t
      · rw [hft] at hct
        have Hn := Lib.hid (show cnt f (t + 1) = cnt f t by simp [cnt, hft])
        clear hft
        go_wp2
        go_round
        case rel => exact ⟨t + 1, by omega, by go_num, by rw [Hn.out]⟩
        case measure => simp [intOf]; omega
      · rw [hft] at hct
        have Hn := Lib.hid (show cnt f (t + 1) = cnt f t + 1 by simp [cnt, hft])
        clear hft
        go_wp2
        go_round
        case rel => exact ⟨t + 1, by omega, by go_num, by rw [Hn.out]; go_num⟩
        case measure => simp [intOf]; omega
    · obtain rfl : t = m := by omega
      go_wp2
      go_ret
      exact ⟨rfl, HF.out⟩
theorem r13whole_no {w : World} {per : Nat} {v : Value} {P : List (Nat × Value)} (h : Rp 0 w v P) (hP : P.length ≤ 1024) (p : Int) (hi : fis (P.map (·.1)) p = false) :
    Calls Tryd.prog 23 #[.agg #[.int .i64 per, v], .int .i64 p] w fun r w' => r = .returned (.bool false) ∧ Fr [] w w' := by
  have C := Lib.hid fun (W : World) (hW : Fr [] w W) => r13find_any (per := per) (own_fr0 h hW) hP p
  obtain ⟨k, hkk⟩ : ∃ k, fnd (P.map (·.1)) p = k := ⟨_, rfl⟩
  rw [hkk, hi] at C
  obtain ⟨av, cv, rfl, hcv⟩ := own_slice h
  obtain ⟨L, hL⟩ : ∃ L, P.length = L := ⟨_, rfl⟩
  rw [hL] at C hcv ⊢
  clear h hkk hi hL hP
  go_enter Tryd.func23, Tryd.ntmps23
  go_wp2_with fail
  refine Calls.mono (C.out _ ?_) ?_
  · exact (by repeat (first | exact Fr.refl _ _ | assumption | refine Fr.trans0 ?_ (by assumption) | refine Fr.drewN ?_ _ | refine Fr.alloc ?_ _ | refine Fr.drew ?_))
  rintro e w2 ⟨rfl, hf2⟩
  go_wp2
  go_quiet (fail)
  go_wp2
  go_ret
  exact ⟨rfl, Fr.drewN (Fr.trans0 (by repeat (first | exact Fr.refl _ _ | assumption | refine Fr.trans0 ?_ (by assumption) | refine Fr.drewN ?_ _ | refine Fr.alloc ?_ _ | refine Fr.drew ?_)) hf2) _⟩
theorem r13whole_yes {w : World} {per : Nat} {v : Value} {P : List (Nat × Value)} (h : Rp 0 w v P) (hP : P.length ≤ 1024) (p : Int) (k n : Nat) (u : Value) (f : Nat → Bool) (hk : fnd (P.map (·.1)) p = k) (hi : fis (P.map (·.1)) p = true) (hx : P[k]? = some (n, u)) (hu : Bs 0 w u per f) (hper : per ≤ 16) :
    Calls Tryd.prog 23 #[.agg #[.int .i64 per, v], .int .i64 p] w fun r w' => r = .returned (.bool (decide (cnt f per = per))) ∧ Fr [] w w' := by
  have C := Lib.hid fun (W : World) (hW : Fr [] w W) => r13find_any (per := per) (own_fr0 h hW) hP p
  rw [hk, hi] at C
  have CF := Lib.hid fun (W : World) (hW : Fr [] w W) => r13fr_any (n := n) (own_fr0 hu hW) hper
  have hkl := (List.getElem?_eq_some_iff.1 hx).1
  obtain ⟨g, cv, rfl, hcv, _, hgw, hcell, _⟩ := own_openS h (by omega)
  obtain ⟨au, cu, rfl, _⟩ := own_slice hu
  have k0 := (hcell (k * 2) (by omega)).trans (pcs_get P k _ hx).1
  have k1 := (hcell (k * 2 + 1) (by omega)).trans (pcs_get P k _ hx).2
  have K0 := Lib.hid k0
  have K1 := Lib.hid k1
  have hcl := cnt_le f per
  have hd : decide (cnt f per = per) = ((cnt f per : Int) == per) := by rw [Bool.eq_iff_iff]; simp; omega
  rw [hd]
  obtain ⟨c, hc⟩ : ∃ c, cnt f per = c := ⟨_, rfl⟩
  rw [hc] at CF hcl ⊢
  obtain ⟨L, hL⟩ : ∃ L, P.length = L := ⟨_, rfl⟩
  rw [hL] at C hcv hkl hP ⊢
  clear h hk hi hL hcell hx hu hd hc k0 k1
  go_enter Tryd.func23, Tryd.ntmps23
  go_wp2_with fail
  refine Calls.mono (C.out _ ?_) ?_
  · exact (by repeat (first | exact Fr.refl _ _ | assumption | refine Fr.trans0 ?_ (by assumption) | refine Fr.drewN ?_ _ | refine Fr.alloc ?_ _ | refine Fr.drew ?_))
  rintro e w2 ⟨rfl, hf2⟩
  have F2 : Fr [] w w2 := Fr.trans0 (by repeat (first | exact Fr.refl _ _ | assumption | refine Fr.trans0 ?_ (by assumption) | refine Fr.drewN ?_ _ | refine Fr.alloc ?_ _ | refine Fr.drew ?_)) hf2
  have a0 := (At.new w 43 #[.int .i64 per, .slice (some ⟨g, 0, none⟩) L cv]).fr hf2 (by simp)
  have HF := Lib.hid F2
  have A0 := Lib.hid a0
  clear hf2 a0 F2
  have c0 := A0.out.cell 0
  have c1 := A0.out.cell 1
  simp only [List.getElem?_toArray, List.getElem?_cons_zero, List.getElem?_cons_succ] at c0 c1
  have k0 := (HF.out.cell (a := ⟨g, k * 2, none⟩) hgw (by simp)).trans K0.out
  have k1 := (HF.out.cell (a := ⟨g, k * 2 + 1, none⟩) hgw (by simp)).trans K1.out
  go_wp2
  go_region_held3 (fun w' => w'.cell? ⟨w.heap.size, 0, none⟩ = some (.int .i64 per) ∧ w'.cell? ⟨w.heap.size, 1, none⟩ = some (.slice (some ⟨g, 0, none⟩) L cv) ∧ w'.cell? ⟨g, k * 2, none⟩ = some (.int .i64 n) ∧ w'.cell? ⟨g, k * 2 + 1, none⟩ = some (.slice au per cu)) (first | exact ⟨c0, c1, k0, k1⟩ | exact dd | go_keep) ((go_at_call 39; refine (CF.out _ (HF.out.trans0 (by repeat (first | exact Fr.refl _ _ | assumption | refine Fr.trans0 ?_ (by assumption) | refine Fr.drewN ?_ _ | refine Fr.alloc ?_ _ | refine Fr.drew ?_)))).mono ?_; rintro e w5 ⟨rfl, hf5⟩; have keep : ∀ (a : Addr) (v : Value), w2.cell? a = some v → w5.cell? a = some v := fun a v hv => (hf5.cell (a := a) (by exact lt_of_cell hv) (by simp)).trans hv; have dd := And.intro (keep _ _ c0) (And.intro (keep _ _ c1) (And.intro (keep _ _ k0) (keep _ _ k1)))))
  all_goals
    go_wp2
    go_ret
    exact ⟨rfl, HF.out.trans0 (Fr.trans0 (by repeat (first | exact Fr.refl _ _ | assumption | refine Fr.trans0 ?_ (by assumption) | refine Fr.drewN ?_ _ | refine Fr.alloc ?_ _ | refine Fr.drew ?_)) hf5)⟩
end Go.Proofs.YtggcmeoafbmckaaDoor
