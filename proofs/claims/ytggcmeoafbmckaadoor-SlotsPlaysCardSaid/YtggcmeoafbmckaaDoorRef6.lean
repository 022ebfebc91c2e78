/-
  What the reference of layer 13 computes: the pages' numbers; two lists alike. Condition: at most 1024 pages, 16 slots.
-/



import Derived.Test.YtggcmeoafbmckaaDoorRef5
set_option linter.unusedVariables false
namespace Go.Proofs.YtggcmeoafbmckaaDoor
open Go.ChangeShapes Go.WideShapes Go.ChangeAt Go.RowKit
theorem num_reads {w : World} {v : Value} {P : List (Nat × Value)} (h : Rp 0 w v P) (j : Nat) (hj : j < P.length) :
    ∃ g cv n, v = .slice (some ⟨g, 0, none⟩) P.length cv ∧ g < w.heap.size ∧ P.length ≤ cv ∧ (P.map (·.1))[j]? = some n ∧ w.cell? ⟨g, j * 2, none⟩ = some (.int .i64 (n : Nat)) := by
  obtain ⟨g, cv, rfl, hcv, _, hgw, hcell, _⟩ := own_openS h (by omega)
  obtain ⟨⟨n, u⟩, hx⟩ : ∃ x, P[j]? = some x := ⟨_, List.getElem?_eq_getElem hj⟩
  exact ⟨g, cv, n, rfl, hgw, hcv, by rw [List.getElem?_map, hx]; rfl, (hcell (j * 2) (by omega)).trans (pcs_get P j _ hx).1⟩
theorem ivs_take (l : List Nat) (k n : Nat) (h : l[k]? = some n) : ivs (l.take (k + 1)) = ivs (l.take k) ++ [.int .i64 (n : Nat)] := by
  obtain ⟨hk, he⟩ := List.getElem?_eq_some_iff.1 h
  rw [List.take_succ_eq_append_getElem hk, he, ivs_snoc]
set_option maxHeartbeats 1000000 in
theorem r13num_any {w : World} {per : Int} {v : Value} {P : List (Nat × Value)} (h : Rp 0 w v P) (hP : P.length ≤ 1024) :
    Calls Tryd.prog 25 #[.agg #[.int .i64 per, v]] w fun r w' => ∃ v', r = .returned v' ∧ w'.ownsRow w.heap.size 3 1 v' (P.map (·.1)).length (ivs (P.map (·.1))) ∧ Fr [] w w' := by
  obtain ⟨i0, hii, hz0, hz1, hz2⟩ := info_parts infoInt
  have HR := Lib.hid (num_reads h)
  obtain ⟨av, cv, rfl, hcv⟩ := own_slice h
  obtain ⟨N, hN⟩ : ∃ N, P.map (·.1) = N := ⟨_, rfl⟩
  have hlen : N.length = P.length := by rw [← hN, List.length_map]
  rw [hN] at HR ⊢
  rw [hlen]
  obtain ⟨L, hL⟩ : ∃ L, P.length = L := ⟨_, rfl⟩
  rw [hL] at HR hcv hP hlen ⊢
  have HL := Lib.hid hlen
  have F0 : Fr [] w (w.alloc (.cells #[.int .i64 per, .slice av L cv] 43)) := (by repeat (first | exact Fr.refl _ _ | assumption | refine Fr.trans0 ?_ (by assumption) | refine Fr.drewN ?_ _ | refine Fr.alloc ?_ _ | refine Fr.drew ?_))
  have HF0 := Lib.hid F0
  have A0 := Lib.hid (At.new w 43 #[.int .i64 per, .slice av L cv])
  have HT := Lib.hid fun j n (hx : N[j]? = some n) => ivs_take N j n hx
  have hb0 : Hid (ivs (N.take 0) = []) := Lib.hid rfl
  clear h hL F0 hN hlen
  go_enter Tryd.func25, Tryd.ntmps25
  go_wp2
  go_loopw [3, 4] (fun c i wr => ∃ k : Nat, k ≤ L ∧ i = .int .i64 k ∧ wr.ownsRow w.heap.size 3 1 c k (ivs (N.take k)) ∧ At wr w.heap.size 43 #[.int .i64 per, .slice av L cv] ∧ Fr [] w wr) (fun _ i _ => L - (intOf i).toNat)
  case atStart => exact ⟨0, by omega, rfl, by rw [hb0.out]; exact World.ownsRow_nil _ _ _ _, A0.out, HF0.out⟩
  case round =>
    obtain ⟨k, hk, rfl, hown, ha, hf⟩ := hrel
    have c1 := ha.cell 1
    simp only [List.getElem?_toArray, List.getElem?_cons_zero, List.getElem?_cons_succ] at c1
    by_cases hlt : k < L
    · obtain ⟨g, cw, n, hv, hgw, hcw, hx, k0⟩ := HR.out k hlt
      injection hv with hv1 hv2 hv3
      subst hv1 hv3
      have k0 := (hf.cell (a := ⟨g, k * 2, none⟩) hgw (by simp)).trans k0
      have HTk := Lib.hid (HT.out k n hx)
      have hfs := hf.size
      have HO := Lib.hid hown
      have HF := Lib.hid hf
      have HA := Lib.hid ha
      clear hx hown hf ha
      go_wp2_with (at_builtin; refine wpList_append_own _ rfl _ _ 37 rfl w.heap.size 3 i0 (.int .i64 0) 1 8 Tryd.underlying37 hii hz0 hz1 hz2 rfl (by omega) _ k _ rfl (own_fr0 HO.out (Fr.alloc (Fr.refl _ _) _)) ⟨wr.heap.size, 0, none⟩ 1 1 [.int .i64 n] rfl rfl (cell_one_new _ _ _) (by simp [Value.oneCell']) (by unfold maxLen; omega) (by omega) (by simp; omega) ?_; intro v1 w1 hown1 hg1 _)
      have hoA := own_fr0 HO.out (Fr.alloc (Fr.refl [] wr) (.cells #[.int .i64 n] 3))
      have h1 : Fr [] w w1 := Fr.app (HF.out.alloc _) hg1 hoA (Nat.le_refl _)
      have hA1 := (HA.out.old (.cells #[.int .i64 n] 3)).fr (Fr.grown hg1) (own_toList hoA (HA.out.old _) (by decide))
      rw [← HTk.out] at hown1
      have HO1 := Lib.hid hown1
      clear hown1 hg1 HO hoA
      go_wp2
      go_roundw
      case rel => exact ⟨k + 1, by omega, by go_num, HO1.out, hA1, h1⟩
      case measure => simp [intOf]; omega
    · obtain rfl : k = L := by omega
      have HE := Lib.hid (show N.take k = N by rw [List.take_of_length_le (by rw [HL.out]; omega)])
      go_wp2
      go_ret
      exact ⟨_, rfl, by have ho := hown; rw [HE.out] at ho; exact ho, hf⟩
theorem r13same_yes {w : World} {b b' : Nat} {va vb : Value} {N : List Nat} (ha : w.ownsRow b 3 1 va N.length (ivs N)) (hb : w.ownsRow b' 3 1 vb N.length (ivs N)) (hN : N.length ≤ 1024) :
    Calls Tryd.prog 24 #[va, vb] w fun r w' => r = .returned (.bool true) ∧ Fr [] w w' := by
  have hopa := Lib.hid fun (hn : 0 < N.length) => own_open ha hn
  have hopb := Lib.hid fun (hn : 0 < N.length) => own_open hb hn
  obtain ⟨aa, ca, rfl, hca⟩ := own_slice ha
  obtain ⟨ab, cb, rfl, hcb⟩ := own_slice hb
  have HG := Lib.hid fun j n (h : N[j]? = some n) => show (ivs N)[j]? = some (Value.int .i64 (n : Nat)) by unfold ivs; rw [List.getElem?_map, h]; rfl
  have HX := Lib.hid fun j (h : j < N.length) => (⟨_, List.getElem?_eq_getElem h⟩ : ∃ n, N[j]? = some n)
  have hii : ∀ i : Int, (i != i) = false := fun i => by simp
  obtain ⟨L, hL⟩ : ∃ L, N.length = L := ⟨_, rfl⟩
  rw [hL] at hopa hopb hca hcb HX hN ⊢
  clear ha hb hL
  go_enter Tryd.func24, Tryd.ntmps24
  go_wp2
  go_loopw [5] (fun i wr => ∃ k : Nat, k ≤ L ∧ i = .int .i64 k ∧ Fr [] w wr) (fun i _ => L - (intOf i).toNat)
  case atStart => exact ⟨0, by omega, rfl, Fr.refl _ _⟩
  case round =>
    obtain ⟨k, hk, rfl, hf⟩ := hrel
    by_cases hlt : k < L
    · obtain ⟨ga, ca', hva, _, _, hgaw, hcella, _⟩ := hopa.out (by omega)
      injection hva with hva1 hva2 hva3
      subst hva1 hva3
      obtain ⟨gb, cb', hvb, _, _, hgbw, hcellb, _⟩ := hopb.out (by omega)
      injection hvb with hvb1 hvb2 hvb3
      subst hvb1 hvb3
      obtain ⟨n, hn⟩ := HX.out k hlt
      have ka := (hf.cell (a := ⟨ga, k, none⟩) hgaw (by simp)).trans ((hcella k hlt).trans (HG.out k n hn))
      have kb := (hf.cell (a := ⟨gb, k, none⟩) hgbw (by simp)).trans ((hcellb k hlt).trans (HG.out k n hn))
      have HF := Lib.hid hf
      clear hcella hcellb hn hf
      go_wp2
      go_quiet (fail)
      go_wp2
      go_roundw
      case rel => exact ⟨k + 1, by omega, by go_num, HF.out.drewN _⟩
      case measure => simp [intOf]; omega
    · obtain rfl : k = L := by omega
      go_wp2
      go_ret
      exact ⟨rfl, hf⟩
end Go.Proofs.YtggcmeoafbmckaaDoor
