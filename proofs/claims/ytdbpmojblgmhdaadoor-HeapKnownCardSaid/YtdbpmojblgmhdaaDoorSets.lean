/-
  Sets of regions: has; sorted; list. Condition: as many as a slice may hold.
-/


import Derived.Test.YtdbpmojblgmhdaaDoorValues
import Derived.Test.YtdbpmojblgmhdaaDoorSortF
import Derived.Shelf.SlSortCmp.NoneTotal
set_option linter.unusedVariables false
namespace Go.Proofs.YtdbpmojblgmhdaaDoor
open Go.ChangeShapes Go.WideShapes Go.ChangeAt Go.RowKit
attribute [local go_sem] Oper.semAt_some
theorem zeroUnit (w : World) : (zeroValue 70).run Tryd.prog w = .ok (.agg #[]) w := by kernel_rfl
theorem shas_any {w : World} {b : Nat} {L : List (Nat × Nat)} (h : Ms w b L) (j : Nat × Nat) (hj : Ok32 j) (B : Bool) (hB : decide (j ∈ L) = B) :
    Calls Tryd.prog 35 #[.map (some b), .agg #[.int .u32 j.1, .int .u32 j.2]] w fun e w' => e = .returned (.bool B) ∧ Fr [] w w' := by
  obtain ⟨j1, j2⟩ := j
  dsimp only
  have hf : Fr [] w (w.alloc (.cells #[.int .u32 j1, .int .u32 j2] 31)) := (by repeat (first | exact Fr.refl _ _ | assumption | refine Fr.trans0 ?_ (by assumption) | refine Fr.drewN ?_ _ | refine Fr.alloc ?_ _ | refine Fr.drew ?_))
  have H := Lib.hid (h.fr0 hf)
  have HB := Lib.hid hB
  clear h hB hf
  go_enter Tryd.func35, Tryd.ntmps35
  go_wp2_with (at_lookup; refine wpList_rlook rfl _ _ 53 rfl H.out 70 Tryd.underlying53 (zeroUnit _) (j1, j2) rfl rfl hj B HB.out ?_)
  go_ret
  exact ⟨rfl, (by repeat (first | exact Fr.refl _ _ | assumption | refine Fr.trans0 ?_ (by assumption) | refine Fr.drewN ?_ _ | refine Fr.alloc ?_ _ | refine Fr.drew ?_))⟩
theorem lsortf_none (w : World) (p : Option Addr) (cap : Nat) (fv : Value) : Calls Tryd.prog 80 #[.slice p 0 cap, fv] w fun e w' => e = .returned (.tuple #[]) ∧ w' = w := by
  have h := Go.Proofs.AnyF.slices_SortFunc_none sortRg p cap fv w
  change Calls Tryd.prog 80 _ _ _ at h
  exact h
theorem lsortedf_any {w : World} {q b : Nat} {L : List (Nat × Nat)} (hq : At w q 53 #[.map (some b)]) (hb : Ms w b L) (hs : ∀ x ∈ L, x.1 < 4294967296) (hL : L.length ≤ 1000000) :
    Calls Tryd.prog 66 #[.func (.func 81) #[] #[.pointer (some ⟨q, 0, none⟩)], .func (.func 68) #[] #[]] w fun e w' => ∃ v ss, e = .returned v ∧ ss.Perm L ∧ ss.Pairwise (fun a b => a.1 ≤ b.1) ∧ w'.ownsRow w.heap.size 31 2 v ss.length (rgv ss) ∧ Fr [] w w' := by
  have C := Lib.hid (lcollect_any hq hb hL)
  have HS := Lib.hid hs
  clear hq hb hs
  go_enter Tryd.func66, Tryd.ntmps66
  go_wp2_with fail
  refine (C.out).mono ?_
  rintro e w1 ⟨v, ss, rfl, hp, ho, hf⟩
  have HP := Lib.hid hp
  have HO := Lib.hid ho
  have HF := Lib.hid hf
  clear hp ho hf
  by_cases h0 : ss = []
  · subst h0
    obtain ⟨a, c, rfl, _⟩ := own_slice HO.out
    go_wp2_with fail
    refine (lsortf_none _ a c _).mono ?_
    rintro e w2 ⟨rfl, rfl⟩
    go_wp2
    go_ret
    exact ⟨_, [], rfl, HP.out, List.Pairwise.nil, HO.out, HF.out⟩
  · go_wp2_with fail
    refine (lsortf_any HO.out h0 (fun x hx => HS.out x (HP.out.mem_iff.1 hx)) (by rw [HP.out.length_eq]; exact hL)).mono ?_
    rintro e w2 ⟨rfl, l', hp2, hs2, ho2, hf2⟩
    have HO2 := Lib.hid ho2
    have HF2 := Lib.hid hf2
    clear ho2 hf2
    go_wp2
    go_ret
    refine ⟨v, l', rfl, hp2.trans HP.out, hs2, by rw [hp2.length_eq]; exact HO2.out, HF.out.trans HF2.out (fun k hk => .inr (HO.out.lt k (Option.mem_toList.1 hk)).1)⟩
end Go.Proofs.YtdbpmojblgmhdaaDoor
