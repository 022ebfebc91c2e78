/-
  What the reference of layer 32 says of a capability: does it lie within a boot set or a grant. Conditions: numbers in their types' ranges; a thousand entries at most.
-/



import Derived.Test.YtkbdoiefgmbikaaOutAll
import Derived.Test.YtkbdoiefgmbikaaRefCap
import Derived.Test.YtkbdoiefgmbikaaRefMake
import Derived.Deep.CutBlock
import Derived.Deep.DeepCutAuto
import Derived.BigRegion
import Derived.Laws.EntriesVeiled
set_option linter.unusedVariables false
namespace Go.Proofs.Ytkbdoiefgmbikaa
open Go.ChangeShapes Go.WideShapes Go.ChangeAt Go.RowKit
/-- Within a list of regions. -/
def inG (c : Cp) (l : List (Nat × Nat)) : Bool := l.any fun r => mkB r.1 r.2 27 && withinB c (mkC r.1 r.2 27)
theorem inG_gcs (c : Cp) (l : List (Nat × Nat)) : (gcs l).any (withinB c) = inG c l := by
  unfold inG gcs
  induction l with
  | nil => rfl
  | cons r l ih =>
    rw [List.flatMap_cons, List.any_append, ih, List.any_cons]
    congr 1
    split
    · rename_i h; simp [h]
    · rename_i h; simp [h]
def mcC (r : Nat × Nat) : Cp := if mkB r.1 r.2 27 = true then mkC r.1 r.2 27 else noC
theorem mcC_pm (r : Nat × Nat) : (mcC r).pm < 65536 := by unfold mcC; split <;> simp [mkC, noC]
theorem mcC_cur (r : Nat × Nat) (h : r.1 < 4294967296) : (mcC r).cur < 4294967296 := by unfold mcC; split <;> simp [mkC, noC]; exact h
set_option maxHeartbeats 4000000 in
set_option maxRecDepth 100000 in
theorem rinside_any (w : World) (c : Cp) (ba : Option Addr) (bcap : Nat) (bl : List Cp) (ra : Option Addr) (rcap : Nat) (rl : List (Nat × Nat)) (hc : c.cur < 4294967296) (hcp : c.pm < 65536)
    (hb : RowsAt w ba 8 (bl.map Cp.l)) (hbc : ∀ b ∈ bl, b.cur < 4294967296 ∧ b.pm < 65536) (hbn : bl.length ≤ 1000)
    (hr : RowsAt w ra 2 (rl.map rgl)) (hrb : ∀ r ∈ rl, r.1 < 4294967296 ∧ r.2 < 4294967296) (hrn : rl.length ≤ 1000) :
    Calls Try.prog 33 #[.agg c.cells, .slice ba bl.length bcap, .slice ra rl.length rcap] w fun r w' => r = .returned (.bool ((bl ++ gcs rl).any (withinB c))) ∧ Fr [] w w' := by
  have HIR := Lib.hid (show (Try.prog.info? 27).map (·.size) = some 2 by kernel_rfl)
  have HR := Lib.hid hr
  have HB := Lib.hid hb
  have HBC := Lib.hid hbc
  have HRB := Lib.hid hrb
  obtain ⟨m, hm⟩ : ∃ m, rl.length = m := ⟨_, rfl⟩
  have HMl := Lib.hid hm
  obtain ⟨n, hn⟩ : ∃ n, bl.length = n := ⟨_, rfl⟩
  have HN := Lib.hid hn
  rw [hm] at hrn ⊢
  rw [hn] at hbn ⊢
  rw [List.any_append, inG_gcs]
  have A0 := Lib.hid (At.new w 51 c.cells)
  have F0 := Lib.hid (show Fr [] w (w.alloc (.cells c.cells 51)) from (by repeat (first | exact Fr.refl _ _ | assumption | refine Fr.trans0 ?_ (by assumption) | refine Fr.drewN ?_ _ | refine Fr.alloc ?_ _ | refine Fr.drew ?_)))
  clear hr hrb hb hbc hm hn
  go_enter Try.func33, Try.ntmps33
  go_wp2_with fail
  obtain ⟨w1, hw1⟩ : ∃ W, w.alloc (.cells c.cells 51) = W := ⟨_, rfl⟩
  have A0 := A0.out
  have F0 := F0.out
  have HR := HR.out
  have HB := HB.out
  have HR := HR.fr0 F0
  have HB := HB.fr0 F0
  rw [hw1] at A0 F0 HR HB ⊢
  clear hw1
  obtain ⟨q, hq⟩ : ∃ q, w.heap.size = q := ⟨_, rfl⟩
  rw [hq] at A0 ⊢
  have A0 := Lib.hid A0
  have F0 := Lib.hid F0
  have HR := Lib.hid HR
  have HB := Lib.hid HB
  go_loopw [7] (fun i wr => ∃ (k : Nat), k ≤ n ∧ i = .int .i64 k ∧ (bl.take k).any (withinB c) = false ∧ Fr [] w1 wr) (fun i _ => n - (intOf i).toNat)
  case atStart => exact ⟨0, by omega, rfl, by simp, Fr.refl _ _⟩
  case round =>
    obtain ⟨k, hk, rfl, hno, hf⟩ := hrel
    have FR := Lib.hid hf
    have HNO := Lib.hid hno
    clear hf hno
    by_cases hlt : k < n
    · obtain ⟨b, hbk⟩ : ∃ b, bl[k]? = some b := ⟨_, List.getElem?_eq_getElem (by rw [HN.out]; exact hlt)⟩
      obtain ⟨hbc1, hbp1⟩ := HBC.out b (List.mem_of_getElem? hbk)
      rcases HB.out.fr0 FR.out with h0 | ⟨g, off, rfl, hg, hcell⟩
      · have : bl = [] := by simpa using h0
        rw [this] at hbk; cases hbk
      have HC := Lib.hid (hcell k b.l (by rw [List.getElem?_map, hbk]; rfl))
      have hkI : (k : Int) < (n : Int) := by omega
      have hsn : (bl.take (k + 1)).any (withinB c) = withinB c b := by
        rw [List.take_add_one, hbk, Option.toList_some, List.any_append, HNO.out]; simp
      obtain ⟨B, hB⟩ : ∃ B, withinB c b = B := ⟨_, rfl⟩
      have HSN := Lib.hid hsn
      have hany : B = true → bl.any (withinB c) = true := fun h => List.any_eq_true.2 ⟨b, List.mem_of_getElem? hbk, by rw [hB, h]⟩
      have HANY := Lib.hid hany
      have CW := Lib.hid (fun W => r04within_any W c b hc hbc1 hcp hbp1)
      rw [hB] at CW HSN
      clear hcell hbk hsn hB hany
      go_wp2_with fail
      refine wp_region_L (fun W => Fr [] wr W) [] (by kernel_rfl) (Fr.refl _ _).drew (fun hHeld => ?_)
      refine wpAnyL_take (i := 0) rfl (by kernel_rfl) (fun _ _ _ h => h) (yields_load_at 51 (.tmp 3) rfl ⟨q, 0, none⟩ rfl c.l _ (fun W hW => (A0.out.fr (FR.out.trans0 hW) (by simp)).all c.l rfl) Try.underlying51 rfl (infoC8 c) rfl) (by assumption) ?_; (try (refine wpAnyL_norm (by simp only [Act.put, List.setIfInBounds_toArray, List.set_cons_zero, List.set_cons_succ]; rfl) ?_))
      refine wpAnyL_take (i := 1) (v := ?_) rfl (by kernel_rfl) (fun _ _ _ h => h) (Or.inl ⟨by rfl, ?_⟩) (by assumption) ?_; rotate_left; (focus (intro w hSw; skip; go_simp; (try with_reducible rfl))); (try (refine wpAnyL_norm (by simp only [Act.put, List.setIfInBounds_toArray, List.set_cons_zero, List.set_cons_succ]; rfl) ?_))
      refine wpAnyL_take (i := 2) (v := ?_) rfl (by kernel_rfl) (fun _ _ _ h => h) (Or.inl ⟨by rfl, ?_⟩) (by assumption) ?_; rotate_left; (focus (intro w hSw; skip; go_simp; (try with_reducible rfl))); (try (refine wpAnyL_norm (by simp only [Act.put, List.setIfInBounds_toArray, List.set_cons_zero, List.set_cons_succ]; rfl) ?_))
      refine wpAnyL_take (i := 3) (v := ?_) rfl (by kernel_rfl) (fun _ _ _ h => h) (Or.inl ⟨by rfl, ?_⟩) (by assumption) ?_; rotate_left; (focus (intro w hSw; skip; go_simp; (try with_reducible rfl))); (try (refine wpAnyL_norm (by simp only [Act.put, List.setIfInBounds_toArray, List.set_cons_zero, List.set_cons_succ]; rfl) ?_))
      refine wpAnyL_take (i := 4) rfl (by kernel_rfl) (fun _ _ _ h => h) (yields_load_at 51 (.tmp 20) rfl ⟨g, off + k * 8, none⟩ rfl b.l _ (fun W hW j v hv => by have := HC.out j v hv; rw [Go.WideShapes.add_plain] at this ⊢; rw [hW.cell hg (by simp)]; exact this) Try.underlying51 rfl (infoC8 b) rfl) (by assumption) ?_; (try (refine wpAnyL_norm (by simp only [Act.put, List.setIfInBounds_toArray, List.set_cons_zero, List.set_cons_succ]; rfl) ?_))
      refine wpAnyL_ready (rs := [5]) (by kernel_rfl) (by simp) ?_; refine AllReadyL.cons rfl (fun K hK => ?_) AllReadyL.nil
      go_simp
      refine (CW.out _).mono ?_
      rintro e1 w3 ⟨rfl, hf3⟩
      refine hK.out _ _ (fun _ => hHeld.trans0 hf3) (fun hHeld' => ?_); have hHeld := hHeld' (by decide); clear hHeld' hK K; (try (refine wpAnyL_norm (by simp only [Act.put, List.setIfInBounds_toArray, List.set_cons_zero, List.set_cons_succ]; rfl) ?_))
      refine wpAnyL_done (by kernel_rfl) ?_ _
      have F3 := Lib.hid (FR.out.trans0 hHeld)
      cases B
      · go_wp2_with fail
        go_roundw
        case rel => exact ⟨k + 1, by omega, by go_num, HSN.out, F3.out⟩
        case measure => simp [intOf]; omega
      · go_wp2_with fail
        go_ret
        have hany : bl.any (withinB c) = true := by first | exact HANY.out rfl | exact HANY.out | exact HANY.out trivial | (have := HANY.out; simpa using this)
        exact ⟨ret_bool (by rw [hany]; rfl), F0.out.trans0 F3.out⟩
    · obtain rfl : k = n := by omega
      have hno : bl.any (withinB c) = false := by have := HNO.out; rwa [← HN.out, List.take_length] at this
      have HBN := Lib.hid hno
      clear HNO hno
      obtain ⟨wo, hwo⟩ : ∃ wo : World, wo = wr := ⟨_, rfl⟩
      subst hwo
      go_wp2_with fail
      go_loopw [8] (fun i wr => ∃ (k : Nat), k ≤ m ∧ i = .int .i64 k ∧ inG c (rl.take k) = false ∧ Fr [] w1 wr) (fun i _ => m - (intOf i).toNat)
      case atStart => exact ⟨0, by omega, rfl, by simp [inG], FR.out⟩
      case round =>
        clear FR
        obtain ⟨k, hk, rfl, hno, hf⟩ := hrel
        have FR := Lib.hid hf
        have HNO := Lib.hid hno
        clear hf hno
        by_cases hlt : k < m
        · obtain ⟨r, hrk⟩ : ∃ r, rl[k]? = some r := ⟨_, List.getElem?_eq_getElem (by rw [HMl.out]; exact hlt)⟩
          obtain ⟨hr1, hr2⟩ := HRB.out r (List.mem_of_getElem? hrk)
          rcases HR.out.fr0 FR.out with h0 | ⟨g, off, rfl, hg, hcell⟩
          · have : rl = [] := by simpa using h0
            rw [this] at hrk; cases hrk
          have HC := Lib.hid (hcell k (rgl r) (by rw [List.getElem?_map, hrk]; rfl))
          have hkI : (k : Int) < (m : Int) := by omega
          have CM := Lib.hid (r04make_any wr r.1 r.2 27 hr1 hr2)
          have hxc := mcC_cur r hr1
          have hxp := mcC_pm r
          have hone : (mkB r.1 r.2 27 && withinB c (mkC r.1 r.2 27)) = (mkB r.1 r.2 27 && withinB c (mcC r)) := by
            unfold mcC; split
            · rfl
            · rename_i h; simp [h]
          have hsn : inG c (rl.take (k + 1)) = (mkB r.1 r.2 27 && withinB c (mcC r)) := by
            have := HNO.out
            unfold inG at this ⊢
            rw [List.take_add_one, hrk, Option.toList_some, List.any_append, this, ← hone]; simp
          have hany : (mkB r.1 r.2 27 && withinB c (mcC r)) = true → inG c rl = true := fun h => List.any_eq_true.2 ⟨r, List.mem_of_getElem? hrk, hone.trans h⟩
          have hX : (if mkB r.1 r.2 27 = true then mkC r.1 r.2 27 else noC) = mcC r := rfl
          rw [hX] at CM
          generalize mcC r = X at *
          obtain ⟨B, hB⟩ : ∃ B, mkB r.1 r.2 27 = B := ⟨_, rfl⟩
          rw [hB] at CM hsn hany
          have HSN := Lib.hid hsn
          have HANY := Lib.hid hany
          have CW := Lib.hid (fun W => r04within_any W c X hc hxc hcp hxp)
          clear hcell hrk hB hX hone hsn hany
          unfold rgl at HC
          unfold Cp.cells at CM
          go_wp2_with (refine wpList_load_at rfl 27 (.tmp 32) rfl ⟨g, off + k * 2, none⟩ rfl [.int .u32 r.1, .int .u32 r.2] _ HC.out Try.underlying27 rfl HIR.out ?_)
          refine (CM.out).mono ?_
          rintro e w3 ⟨rfl, hf3⟩
          have F3 := Lib.hid ((FR.out.trans0 hf3).alloc (.cells X.cells 51))
          have A3 := Lib.hid (A0.out.fr F3.out (by simp))
          have X3 := Lib.hid (At.new w3 51 X.cells)
          clear hf3
          cases B
          · go_wp2_with fail
            go_roundw
            case rel => exact ⟨k + 1, by omega, by go_num, HSN.out, F3.out⟩
            case measure => simp [intOf]; omega
          · go_wp2_with (first | refine wpList_load_all rfl 51 (.tmp 3) rfl q rfl 51 c.cells _ A3.out Try.underlying51 rfl (infoC8 c) ?_ | refine wpList_load_all rfl 51 (.tmp 9) rfl w3.heap.size rfl 51 X.cells _ X3.out Try.underlying51 rfl (infoC8 X) ?_)
            refine (CW.out _).mono ?_
            rintro e w4 ⟨rfl, hf4⟩
            have F4 := Lib.hid (F3.out.trans0 hf4)
            clear hf4
            obtain ⟨M, hM⟩ : ∃ M, withinB c X = M := ⟨_, rfl⟩
            rw [hM] at HSN HANY ⊢
            clear hM
            cases M
            · go_wp2_with fail
              go_roundw
              case rel => exact ⟨k + 1, by omega, by go_num, HSN.out, F4.out⟩
              case measure => simp [intOf]; omega
            · go_wp2_with fail
              go_ret
              have hany : inG c rl = true := by first | exact HANY.out rfl | exact HANY.out | exact HANY.out trivial | (have := HANY.out; simpa using this)
              exact ⟨ret_bool (by rw [hany, Bool.or_true]), F0.out.trans0 F4.out⟩
        · obtain rfl : k = m := by omega
          have hno : inG c rl = false := by have := HNO.out; rwa [← HMl.out, List.take_length] at this
          go_wp2_with fail
          go_ret
          exact ⟨ret_bool (by rw [hno, HBN.out]; rfl), F0.out.trans0 FR.out⟩
end Go.Proofs.Ytkbdoiefgmbikaa
