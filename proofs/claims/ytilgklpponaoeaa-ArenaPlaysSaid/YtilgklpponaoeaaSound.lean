/-
  Whether a capability's fields are what they may be. Condition: numbers in their types' ranges.
-/


import Derived.Test.YtilgklpponaoeaaCaps
import Derived.Test.YtilgklpponaoeaaBytes
import Derived.BigRegion
set_option linter.unusedVariables false
namespace Go.Proofs.Ytilgklpponaoeaa
open Go.ChangeShapes Go.WideShapes Go.ChangeAt Go.RowKit
def flatP (ps : List (Nat × Nat)) : List Value := ps.flatMap fun p => [.int .u32 (p.1 : Nat), .int .u32 (p.2 : Nat)]
theorem flatP_get : ∀ (ps : List (Nat × Nat)) (j : Nat) (p : Nat × Nat), ps[j]? = some p → (flatP ps)[2 * j]? = some (.int .u32 (p.1 : Nat)) ∧ (flatP ps)[2 * j + 1]? = some (.int .u32 (p.2 : Nat))
  | [], j, p, h => by simp at h
  | d :: ps, 0, p, h => by simp at h; subst h; exact ⟨rfl, rfl⟩
  | d :: ps, j + 1, p, h => by
    have ih := flatP_get ps j p (by simpa using h)
    unfold flatP at ih ⊢
    rw [List.flatMap_cons, show 2 * (j + 1) = 2 + 2 * j by omega, show 2 + 2 * j + 1 = 2 + (2 * j + 1) by omega]
    exact ⟨by rw [List.getElem?_append_right (by simp)]; simpa using ih.1, by rw [List.getElem?_append_right (by simp)]; simpa using ih.2⟩
def belB (ps : List (Nat × Nat)) : Bool := ps.all fun p => decide (p.1 < p.2)
set_option maxHeartbeats 1000000 in
set_option maxRecDepth 100000 in
theorem below_any (w : World) (q : Nat) (ps : List (Nat × Nat)) (h : At w q 35 (flatP ps).toArray) (n : Nat) (hn : n = 2 * ps.length) (hl : n ≤ 1000) :
    Calls Try.prog 71 #[.slice (some ⟨q, 0, none⟩) n n] w fun r w' => r = .returned (.bool (belB ps)) ∧ Fr [] w w' := by
  have HA := Lib.hid h
  have HN := Lib.hid hn
  clear h hn
  go_enter Try.func71, Try.ntmps71
  go_wp2_with fail
  go_loopw [3] (fun x wr => ∃ i j : Nat, i = 2 * j ∧ i ≤ n ∧ x = .int .i64 i ∧ belB (ps.take j) = true ∧ Fr [] w wr) (fun x _ => n - (intOf x).toNat)
  case atStart => exact ⟨0, 0, rfl, by omega, rfl, by simp [belB], Fr.refl _ _⟩
  case round =>
    obtain ⟨i, j, hij, hi, rfl, hb, hf⟩ := hrel
    have hn := HN.out
    by_cases hin : i < n
    · obtain ⟨p, hp⟩ : ∃ p, ps[j]? = some p := ⟨_, List.getElem?_eq_getElem (by omega)⟩
      obtain ⟨g1, g2⟩ := flatP_get ps j p hp
      have A := HA.out.fr hf (by simp)
      have c1 := A.cell i
      have c2 := A.cell (i + 1)
      rw [List.getElem?_toArray] at c1 c2
      rw [hij] at c1 c2
      rw [g1] at c1
      rw [g2] at c2
      rw [← hij] at c1 c2
      have hlt : (i : Int) + 1 < (n : Int) := by omega
      have HP := Lib.hid hp
      have HB := Lib.hid hb
      have HF := Lib.hid hf
      have HT : Hid (belB (ps.take (j + 1)) = (decide (p.1 < p.2))) := Lib.hid (by
        unfold belB at hb ⊢
        rw [List.take_add_one, hp]
        simp only [Option.toList_some, List.all_append, hb, Bool.true_and, List.all_cons, List.all_nil, Bool.and_true])
      have HIJ := Lib.hid hij
      obtain ⟨x, hx⟩ : ∃ x, p.1 = x := ⟨_, rfl⟩
      obtain ⟨y, hy⟩ : ∃ y, p.2 = y := ⟨_, rfl⟩
      rw [hx] at c1
      rw [hy] at c2
      rw [hx, hy] at HT
      have hn2 : i + 1 < n := by omega
      clear hp hb hf A g1 g2 hn hij hx hy
      by_cases hxy : x < y
      · have hge : ¬ (x : Int) ≥ (y : Int) := by omega
        go_upto_region 4 with (fail)
        go_region
        all_goals
          go_wp2_with fail
          go_roundw
          case rel => exact ⟨i + 2, j + 1, by have := HIJ.out; omega, by omega, by go_num, by rw [HT.out]; simpa using hxy, HF.out.drew⟩
          case measure => simp [intOf]; omega
      · have hge : (x : Int) ≥ (y : Int) := by omega
        have hbf : Hid (belB ps = false) := Lib.hid (by
          cases hc : belB ps
          · rfl
          · exfalso
            have h1 : belB (ps.take (j + 1)) = true := by
              unfold belB at hc ⊢
              rw [List.all_eq_true] at hc ⊢
              exact fun p hp => hc p (List.mem_of_mem_take hp)
            rw [HT.out] at h1
            simp at h1
            omega)
        go_upto_region 4 with (fail)
        go_region
        all_goals
          go_wp2_with fail
          go_ret
          exact ⟨by rw [hbf.out]; rfl, HF.out.drew⟩
    · have hnl : ¬ (i : Int) + 1 < (n : Int) := by omega
      have HF := Lib.hid hf
      have hps : Hid (belB ps = true) := Lib.hid (by rw [← hb, List.take_of_length_le (by omega)])
      clear hb hf
      go_wp2_with fail
      go_ret
      exact ⟨by rw [hps.out]; rfl, HF.out⟩
def soundB (c : Cp) : Bool := belB [(c.e, 22), (c.b, 4096), (c.t, 4096), (c.pm, 256), (c.ty, 4096), (c.rs, 16777216)]
theorem soundB_iff (c : Cp) : soundB c = true ↔ c.e < 22 ∧ c.b < 4096 ∧ c.t < 4096 ∧ c.pm < 256 ∧ c.ty < 4096 ∧ c.rs < 16777216 := by
  unfold soundB belB
  simp
theorem sound_any (w : World) (c : Cp) (hc : c.Ok) : Calls Try.prog 39 #[.agg c.cells] w fun r w' => r = .returned (.bool (soundB c)) ∧ Fr [] w w' := by
  unfold soundB Cp.cells
  have C := Lib.hid fun W q (h : At W q 35 #[.int .u32 c.e, .int .u32 22, .int .u32 c.b, .int .u32 4096, .int .u32 c.t, .int .u32 4096, .int .u32 c.pm, .int .u32 256, .int .u32 c.ty, .int .u32 4096, .int .u32 c.rs, .int .u32 16777216]) => below_any W q [(c.e, 22), (c.b, 4096), (c.t, 4096), (c.pm, 256), (c.ty, 4096), (c.rs, 16777216)] (by simpa [flatP] using h) 12 rfl (by omega)
  obtain ⟨B, hB⟩ : ∃ B, belB [(c.e, 22), (c.b, 4096), (c.t, 4096), (c.pm, 256), (c.ty, 4096), (c.rs, 16777216)] = B := ⟨_, rfl⟩
  rw [hB] at C ⊢
  clear hB
  have h1 := hc.e
  have h2 := hc.b
  have h3 := hc.t
  have h4 := hc.pm
  have h5 := hc.ty
  have h6 := hc.rs
  go_enter Try.func39, Try.ntmps39
  go_wp2_with fail
  refine (C.out _ (w.heap.size + 1) (At.nw (by simp only [World.size_alloc]))).mono ?_
  rintro e w2 ⟨rfl, hf2⟩
  go_wp2_with fail
  go_ret
  exact ⟨rfl, (show Fr [] w _ from (by repeat (first | exact Fr.refl _ _ | assumption | refine Fr.trans0 ?_ (by assumption) | refine Fr.drewN ?_ _ | refine Fr.alloc ?_ _ | refine Fr.drew ?_))).trans0 hf2⟩
end Go.Proofs.Ytilgklpponaoeaa
