/-
  What lies outside, and what meets a region: Outside and Meeting of audit. Conditions: numbers in their types' ranges; a thousand entries at most.
-/



import Derived.Test.YtkbdoiefgmbikaaMeets
import Derived.Deep.CutBlock
import Derived.Deep.DeepCutAuto
import Derived.BigRegion
import Derived.Laws.EntriesVeiled
set_option linter.unusedVariables false
namespace Go.Proofs.Ytkbdoiefgmbikaa
open Go.ChangeShapes Go.WideShapes Go.ChangeAt Go.RowKit
/-! ### lists of capabilities, of what is held, of regions -/
def catC (l : List Cp) : List Value := l.flatMap Cp.l
theorem cl_len (c : Cp) : c.l.length = 8 := rfl
theorem catC_len (l : List Cp) : (catC l).length = l.length * 8 := by
  unfold catC
  induction l with
  | nil => rfl
  | cons a l ih => rw [List.flatMap_cons, List.length_append, ih, cl_len, List.length_cons]; omega
theorem catC_app (l m : List Cp) : catC (l ++ m) = catC l ++ catC m := by unfold catC; rw [List.flatMap_append]
theorem catC_get : ∀ (l : List Cp) (k : Nat) (c : Cp) (j : Nat), l[k]? = some c → j < 8 → (catC l)[k * 8 + j]? = c.l[j]?
  | [], k, c, j, h, _ => by cases h
  | a :: l, 0, c, j, h, hj => by
    simp at h; subst h
    show (a.l ++ catC l)[0 * 8 + j]? = _
    rw [Nat.zero_mul, Nat.zero_add, List.getElem?_append_left (by rw [cl_len]; exact hj)]
  | a :: l, k + 1, c, j, h, hj => by
    have := catC_get l k c j (by simpa using h) hj
    show (a.l ++ catC l)[(k + 1) * 8 + j]? = _
    rw [List.getElem?_append_right (by rw [cl_len]; omega), cl_len, show (k + 1) * 8 + j - 8 = k * 8 + j by omega]
    exact this
theorem catC_one (l : List Cp) : ∀ u ∈ catC l, u.oneCell' = true := fun u hu => by
  unfold catC at hu
  obtain ⟨c, _, hc⟩ := List.mem_flatMap.1 hu
  unfold Cp.l at hc
  simp at hc
  rcases hc with rfl | rfl | rfl | rfl | rfl | rfl | rfl | rfl <;> rfl
/-- So many cells each, from an address on. -/
def RowsAt (w : World) (a : Option Addr) (sz : Nat) (l : List (List Value)) : Prop :=
  l = [] ∨ ∃ b off, a = some ⟨b, off, none⟩ ∧ b < w.heap.size ∧ ∀ k c, l[k]? = some c → ∀ j v, c[j]? = some v → w.cell? ((⟨b, off + k * sz, none⟩ : Addr).add j) = some v
theorem RowsAt.fr {w w' : World} {a : Option Addr} {sz : Nat} {l : List (List Value)} {S : List Nat} (h : RowsAt w a sz l) (f : Fr S w w') (hS : ∀ b off, a = some ⟨b, off, none⟩ → b ∉ S) : RowsAt w' a sz l := by
  rcases h with h | ⟨b, off, rfl, hb, hc⟩
  · exact .inl h
  · refine .inr ⟨b, off, rfl, Nat.lt_of_lt_of_le hb f.size, fun k e hk j v hv => ?_⟩
    have := hc k e hk j v hv
    rw [Go.WideShapes.add_plain] at this ⊢
    rw [f.cell hb (hS b off rfl)]
    exact this
theorem RowsAt.fr0 {w w' : World} {a : Option Addr} {sz : Nat} {l : List (List Value)} (h : RowsAt w a sz l) (f : Fr [] w w') : RowsAt w' a sz l := h.fr f (by simp)
theorem RowsAt.take {w : World} {a : Option Addr} {sz : Nat} {l : List (List Value)} (h : RowsAt w a sz l) (k : Nat) : RowsAt w a sz (l.take k) := by
  rcases h with h | ⟨b, off, rfl, hb, hc⟩
  · exact .inl (by rw [h]; simp)
  · refine .inr ⟨b, off, rfl, hb, fun i e hi => hc i e ?_⟩
    rw [List.getElem?_take] at hi
    split at hi
    · exact hi
    · cases hi
/-- A list of its own, read. -/
theorem own_caps {w : World} {B : Nat} {v : Value} {l : List Cp} (h : w.ownsRow B 51 8 v l.length (catC l)) : ∃ a c, v = .slice a l.length c ∧ RowsAt w a 8 (l.map Cp.l) := by
  rcases h.2 with ⟨rfl, h0⟩ | ⟨g, cap, cur, rfl, hbg, h1, h2, h3, h4, h5⟩
  · have : l = [] := List.eq_nil_of_length_eq_zero h0
    subst this
    exact ⟨none, 0, rfl, .inl rfl⟩
  · have ha : At w g 51 cur := h1
    refine ⟨_, _, rfl, .inr ⟨g, 0, rfl, ha.lt, fun k c hk j v hv => ?_⟩⟩
    rw [List.getElem?_map, Option.map_eq_some_iff] at hk
    obtain ⟨c, hk, rfl⟩ := hk
    have hj : j < 8 := by have := (List.getElem?_eq_some_iff.1 hv).1; rwa [cl_len] at this
    have hkl := (List.getElem?_eq_some_iff.1 hk).1
    rw [Go.WideShapes.add_plain, ha.cell, Nat.zero_add, ← Array.getElem?_toList]
    have : (cur.toList.take (l.length * 8))[k * 8 + j]? = (catC l)[k * 8 + j]? := by rw [← h5]
    rw [List.getElem?_take, if_pos (by omega)] at this
    rw [this, catC_get l k c j hk hj, hv]
theorem out11_any (w : World) (q : Nat) (c b : Cp) (h : At w q 51 c.cells) (hc : c.cur < 4294967296) (hb : b.cur < 4294967296) :
    Calls Try.prog 31 #[.agg b.cells, .pointer (some ⟨q, 0, none⟩)] w fun r w' => r = .returned (.bool (withinB c b)) ∧ Fr [] w w' := by
  have C := Lib.hid fun W => within_any W c b hc hb
  have H := Lib.hid h
  have hq := h.lt
  have A0 := Lib.hid (At.new w 51 b.cells)
  have F0 := Lib.hid (show Fr [] w (w.alloc (.cells b.cells 51)) from (by repeat (first | exact Fr.refl _ _ | assumption | refine Fr.trans0 ?_ (by assumption) | refine Fr.drewN ?_ _ | refine Fr.alloc ?_ _ | refine Fr.drew ?_)))
  have H1 := Lib.hid (h.fr F0.out (by simp))
  clear h
  go_enter Try.func31, Try.ntmps31
  go_wp2_with (first | refine wpList_load_all rfl 51 (.tmp 1) rfl q rfl 51 c.cells _ H1.out Try.underlying51 rfl (infoC8 c) ?_ | refine wpList_load_all rfl 51 (.tmp 2) rfl w.heap.size rfl 51 b.cells _ A0.out Try.underlying51 rfl (infoC8 b) ?_)
  refine (C.out _).mono ?_
  rintro e w2 ⟨rfl, hf2⟩
  go_wp2_with fail
  go_ret
  exact ⟨rfl, F0.out.trans0 hf2⟩
set_option maxRecDepth 100000 in
theorem ifunc_any (w : World) (a : Option Addr) (cap q : Nat) (c : Cp) (l : List Cp) (hl : RowsAt w a 8 (l.map Cp.l)) (hcs : ∀ b ∈ l, b.cur < 4294967296) (h : At w q 51 c.cells) (hc : c.cur < 4294967296) (hn : l.length ≤ 1000000) :
    Calls Try.prog 42 #[.slice a l.length cap, .func (.func 31) #[] #[.pointer (some ⟨q, 0, none⟩)]] w fun r w' => ∃ i : Int, r = .returned (.int .i64 i) ∧ (0 ≤ i ↔ l.any (withinB c) = true) ∧ Fr [] w w' := by
  have HL := Lib.hid hl
  have HS := Lib.hid hcs
  have HQ := Lib.hid h
  obtain ⟨n, hnn⟩ : ∃ n, l.length = n := ⟨_, rfl⟩
  have HN := Lib.hid hnn
  rw [hnn] at hn ⊢
  clear hl hcs hnn h
  go_enter Try.func42, Try.ntmps42
  go_wp2_with fail
  go_loopw [8] (fun i wr => ∃ k : Nat, k ≤ n ∧ i = .int .i64 k ∧ (l.take k).any (withinB c) = false ∧ Fr [] w wr) (fun i _ => n - (intOf i).toNat)
  case atStart => exact ⟨0, by omega, rfl, by simp, Fr.refl _ _⟩
  case round =>
    obtain ⟨k, hk, rfl, hno, hf⟩ := hrel
    have HNO := Lib.hid hno
    have FR := Lib.hid hf
    clear hno hf
    by_cases hlt : k < n
    · obtain ⟨b, hbk⟩ : ∃ b, l[k]? = some b := ⟨_, List.getElem?_eq_getElem (by rw [HN.out]; exact hlt)⟩
      rcases HL.out.fr0 FR.out with h0 | ⟨g, off, rfl, hg, hcell⟩
      · have : l = [] := by simpa using h0
        rw [this] at hbk; cases hbk
      have HC := Lib.hid (hcell k b.l (by rw [List.getElem?_map, hbk]; rfl))
      have hbm := List.mem_of_getElem? hbk
      have C := Lib.hid fun W (hW : Fr [] w W) => out11_any W q c b (HQ.out.fr hW (by simp)) hc (HS.out b hbm)
      have HB := Lib.hid hbk
      have hkI : (k : Int) < (n : Int) := by omega
      clear hcell hbk
      go_wp2_with (refine wpList_load_at rfl 51 (.tmp 14) rfl ⟨g, off + k * 8, none⟩ rfl b.l _ HC.out Try.underlying51 rfl (infoC8 b) ?_)
      refine (C.out _ FR.out).mono ?_
      rintro e w2 ⟨rfl, hf2⟩
      obtain ⟨M, hM⟩ : ∃ M, withinB c b = M := ⟨_, rfl⟩
      have HM := Lib.hid hM
      have F2 := Lib.hid (FR.out.trans0 hf2)
      rw [hM]
      clear hM hf2
      cases M
      · go_wp2_with fail
        go_roundw
        case rel =>
          refine ⟨k + 1, by omega, by go_num, ?_, F2.out⟩
          rw [List.take_add_one, HB.out, Option.toList_some, List.any_append, HNO.out]
          simp [HM.out]
        case measure => simp [intOf]; omega
      · go_wp2_with fail
        go_ret
        exact ⟨k, rfl, ⟨fun _ => List.any_eq_true.2 ⟨b, hbm, HM.out⟩, fun _ => by omega⟩, F2.out⟩
    · obtain rfl : k = n := by omega
      go_wp2_with fail
      go_ret
      refine ⟨-1, rfl, ⟨fun h => by omega, fun h => ?_⟩, FR.out⟩
      have := HNO.out
      rw [← HN.out, List.take_length, h] at this
      cases this
theorem cfunc_any (w : World) (a : Option Addr) (cap q : Nat) (c : Cp) (l : List Cp) (hl : RowsAt w a 8 (l.map Cp.l)) (hcs : ∀ b ∈ l, b.cur < 4294967296) (h : At w q 51 c.cells) (hc : c.cur < 4294967296) (hn : l.length ≤ 1000000) :
    Calls Try.prog 30 #[.slice a l.length cap, .func (.func 31) #[] #[.pointer (some ⟨q, 0, none⟩)]] w fun r w' => r = .returned (.bool (l.any (withinB c))) ∧ Fr [] w w' := by
  have C := Lib.hid (ifunc_any w a cap q c l hl hcs h hc hn)
  go_enter Try.func30, Try.ntmps30
  go_wp2_with fail
  refine (C.out).mono ?_
  rintro e w2 ⟨i, rfl, hi, hf2⟩
  go_wp2_with fail
  go_ret
  refine ⟨ret_bool ?_, hf2⟩
  rw [Bool.eq_iff_iff, decide_eq_true_eq, List.any_eq_true]
set_option maxRecDepth 100000 in
theorem out1_any (w : World) (Q : Nat) (a : Option Addr) (cap : Nat) (c : Cp) (l : List Cp) (hQ : At w Q 23 #[.slice a l.length cap]) (hl : RowsAt w a 8 (l.map Cp.l)) (hcs : ∀ b ∈ l, b.cur < 4294967296) (hc : c.cur < 4294967296) (hn : l.length ≤ 1000000) :
    Calls Try.prog 29 #[.agg c.cells, .pointer (some ⟨Q, 0, none⟩)] w fun r w' => r = .returned (.bool (!(l.any (withinB c)))) ∧ Fr [] w w' := by
  have F0 := Lib.hid (show Fr [] w (w.alloc (.cells c.cells 51)) from (by repeat (first | exact Fr.refl _ _ | assumption | refine Fr.trans0 ?_ (by assumption) | refine Fr.drewN ?_ _ | refine Fr.alloc ?_ _ | refine Fr.drew ?_)))
  have hql := hQ.lt
  have c0 : (w.alloc (.cells c.cells 51)).cell? ⟨Q, 0, none⟩ = some (.slice a l.length cap) := (hQ.fr F0.out (by simp)).cell 0
  have C := Lib.hid (cfunc_any _ a cap w.heap.size c l (hl.fr0 F0.out) hcs (At.new w 51 c.cells) hc hn)
  obtain ⟨B, hB⟩ : ∃ B, l.any (withinB c) = B := ⟨_, rfl⟩
  rw [hB] at C ⊢
  clear hB hQ
  go_enter Try.func29, Try.ntmps29
  go_wp2_with fail
  refine (C.out).mono ?_
  rintro e w2 ⟨rfl, hf2⟩
  go_wp2_with fail
  go_ret
  exact ⟨by simp, F0.out.trans0 hf2⟩
theorem mt1_any (w : World) (Q : Nat) (a s : Nat) (c : Cp) (hQ : At w Q 27 #[.int .u32 a, .int .u32 s]) (hc : c.cur < 4294967296) (ha : a < 4294967296) (hs : s < 4294967296) :
    Calls Try.prog 34 #[.agg c.cells, .pointer (some ⟨Q, 0, none⟩)] w fun r w' => r = .returned (.bool (meetsB c a s)) ∧ Fr [] w w' := by
  have F0 := Lib.hid (show Fr [] w (w.alloc (.cells c.cells 51)) from (by repeat (first | exact Fr.refl _ _ | assumption | refine Fr.trans0 ?_ (by assumption) | refine Fr.drewN ?_ _ | refine Fr.alloc ?_ _ | refine Fr.drew ?_)))
  have A0 := Lib.hid (At.new w 51 c.cells)
  have H1 := Lib.hid (hQ.fr F0.out (by simp))
  have hql := hQ.lt
  have C := Lib.hid fun W => meets_any W c a s hc ha hs
  have HIR := Lib.hid (show (Try.prog.info? 27).map (·.size) = some 2 by kernel_rfl)
  clear hQ
  go_enter Try.func34, Try.ntmps34
  go_wp2_with (first | refine wpList_load_all rfl 51 (.tmp 2) rfl w.heap.size rfl 51 c.cells _ A0.out Try.underlying51 rfl (infoC8 c) ?_ | refine wpList_load_at rfl 27 (.tmp 1) rfl ⟨Q, 0, none⟩ rfl [.int .u32 a, .int .u32 s] _ (H1.out.two 0 _ _ rfl rfl) Try.underlying27 rfl HIR.out ?_)
  refine (C.out _).mono ?_
  rintro e w2 ⟨rfl, hf2⟩
  go_wp2_with fail
  go_ret
  exact ⟨rfl, F0.out.trans0 hf2⟩
end Go.Proofs.Ytkbdoiefgmbikaa
