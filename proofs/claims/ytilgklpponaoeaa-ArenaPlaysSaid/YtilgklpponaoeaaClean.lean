/-
  Lists of capabilities in a block; what scan.clean does to one of them, and to all. Condition: numbers in their types' ranges.
-/




import Derived.Test.YtilgklpponaoeaaScan
import Derived.Deep.RegionHeld3
import Derived.Deep.CutBlock
import Derived.Deep.DeepCutAuto
set_option linter.unusedVariables false
namespace Go.Proofs.Ytilgklpponaoeaa
open Go.ChangeShapes Go.WideShapes Go.ChangeAt Go.RowKit
/-! ### capabilities one behind the other -/
def cat (l : List Cp) : List Value := l.flatMap Cp.l
theorem Cp.l_len (c : Cp) : c.l.length = 8 := rfl
theorem cat_len (l : List Cp) : (cat l).length = l.length * 8 := by
  unfold cat
  induction l with
  | nil => rfl
  | cons c l ih => rw [List.flatMap_cons, List.length_append, ih, Cp.l_len, List.length_cons]; omega
theorem cat_get : ∀ (l : List Cp) (i j : Nat) (c : Cp), l[i]? = some c → j < 8 → (cat l)[i * 8 + j]? = c.l[j]?
  | [], i, j, c, h, _ => by simp at h
  | d :: l, 0, j, c, h, hj => by
    simp at h; subst h
    unfold cat
    rw [List.flatMap_cons, List.getElem?_append_left (by rw [Cp.l_len]; omega), Nat.zero_mul, Nat.zero_add]
  | d :: l, i + 1, j, c, h, hj => by
    have ih := cat_get l i j c (by simpa using h) hj
    unfold cat at ih ⊢
    rw [List.flatMap_cons, List.getElem?_append_right (by rw [Cp.l_len]; omega), Cp.l_len, show (i + 1) * 8 + j - 8 = i * 8 + j by omega]
    exact ih
def Cp.off (c : Cp) : Cp := { c with v := false }
theorem cat_off : ∀ (l : List Cp) (i : Nat) (c : Cp), l[i]? = some c → (cat l).set (i * 8 + 7) (.bool false) = cat (l.set i c.off)
  | [], i, c, h => by simp at h
  | d :: l, 0, c, h => by
    simp at h; subst h
    unfold cat
    rw [List.flatMap_cons, List.set_cons_zero, List.flatMap_cons, List.set_append_left _ _ (by rw [Cp.l_len]; omega)]
    rfl
  | d :: l, i + 1, c, h => by
    have ih := cat_off l i c (by simpa using h)
    unfold cat at ih ⊢
    rw [List.flatMap_cons, List.set_append_right _ _ (by rw [Cp.l_len]; omega), Cp.l_len, show (i + 1) * 8 + 7 - 8 = i * 8 + 7 by omega, ih, List.set_cons_succ, List.flatMap_cons]
theorem cat_cell {w : World} {g : Nat} {T : TypeId} {l : List Cp} (h : At w g T (cat l).toArray) (i : Nat) (c : Cp) (hi : l[i]? = some c) :
    w.cell? ⟨g, i * 8, none⟩ = some (.int .u32 c.cur) ∧ w.cell? ⟨g, i * 8 + 1, none⟩ = some (.int .u8 c.e) ∧ w.cell? ⟨g, i * 8 + 2, none⟩ = some (.int .u16 c.b) ∧ w.cell? ⟨g, i * 8 + 3, none⟩ = some (.int .u16 c.t) ∧ w.cell? ⟨g, i * 8 + 4, none⟩ = some (.int .u16 c.pm) ∧ w.cell? ⟨g, i * 8 + 5, none⟩ = some (.int .u16 c.ty) ∧ w.cell? ⟨g, i * 8 + 6, none⟩ = some (.int .u32 c.rs) ∧ w.cell? ⟨g, i * 8 + 7, none⟩ = some (.bool c.v) := by
  have key : ∀ j, j < 8 → w.cell? ⟨g, i * 8 + j, none⟩ = c.l[j]? := fun j hj => by
    rw [h.cell, List.getElem?_toArray]; exact cat_get l i j c hi hj
  exact ⟨key 0 (by omega), key 1 (by omega), key 2 (by omega), key 3 (by omega), key 4 (by omega), key 5 (by omega), key 6 (by omega), key 7 (by omega)⟩
/-- One of them cleaned. -/
def cln (hs : Int → Bool) (c : Cp) : Cp := if stB hs c = true then c.off else c
def sOne (hs : Int → Bool) (c : Cp) : Nat := if stB hs c = true then 1 else 0
set_option maxHeartbeats 1000000 in
theorem clean1_any {B : Nat} {w : World} {pv : Option Addr} {hs : Int → Bool} (h : Hs B w pv hs) (hB : B ≤ w.heap.size) (g q1 q2 : Nat) (T : TypeId) (l : List Cp) (i : Nat) (c : Cp) (k : Nat)
    (hg : At w g T (cat l).toArray) (hi : l[i]? = some c) (hc : c.cur < 4294967296) (h1 : At w q1 94 #[.func (.func 60) #[.agg #[.pointer pv]] #[]]) (h2 : At w q2 3 #[.int .i64 k]) (hk : k ≤ 1000000) (hgq : g ≠ q2) (hgB : B ≤ g) (hqB : B ≤ q2) :
    Calls Try.prog 90 #[.pointer (some ⟨g, i * 8, none⟩), .pointer (some ⟨q1, 0, none⟩), .pointer (some ⟨q2, 0, none⟩)] w fun r w' => (∃ v, r = .returned v) ∧ At w' g T (cat (l.set i (cln hs c))).toArray ∧ At w' q2 3 #[.int .i64 (k + sOne hs c : Nat)] ∧ Fr [g, q2] w w' := by
  have C := Lib.hid fun (W : World) (hW : W.heap = w.heap) => stale_any (h.hp (w' := W) hW) (by rw [hW]; exact hB) c hc
  obtain ⟨d0, d1, d2, d3, d4, d5, d6, d7⟩ := cat_cell hg i c hi
  have cq := h1.cell 0
  simp only [List.getElem?_toArray, List.getElem?_cons_zero] at cq
  have HG := Lib.hid hg
  have HI := Lib.hid hi
  have H2 := Lib.hid h2
  unfold Cp.cells at C
  have hl1 := hg.lt
  have hl2 := h1.lt
  unfold cln sOne
  by_cases hb : stB hs c = true
  · rw [hb] at C
    rw [if_pos hb, if_pos hb]
    clear h hg hi h1 h2 hb
    go_enter Try.func90, Try.ntmps90
    go_wp2_with fail
    go_region_held3 (fun w' => w'.cell? ⟨q1, 0, none⟩ = some (.func (.func 60) #[.agg #[.pointer pv]] #[]) ∧ w'.cell? ⟨g, i * 8, none⟩ = some (.int .u32 c.cur) ∧ w'.cell? ⟨g, i * 8 + 1, none⟩ = some (.int .u8 c.e) ∧ w'.cell? ⟨g, i * 8 + 2, none⟩ = some (.int .u16 c.b) ∧ w'.cell? ⟨g, i * 8 + 3, none⟩ = some (.int .u16 c.t) ∧ w'.cell? ⟨g, i * 8 + 4, none⟩ = some (.int .u16 c.pm) ∧ w'.cell? ⟨g, i * 8 + 5, none⟩ = some (.int .u16 c.ty) ∧ w'.cell? ⟨g, i * 8 + 6, none⟩ = some (.int .u32 c.rs) ∧ w'.cell? ⟨g, i * 8 + 7, none⟩ = some (.bool c.v)) (first | exact ⟨cq, d0, d1, d2, d3, d4, d5, d6, d7⟩ | exact dd | go_keep) ((go_at_call 60; refine (C.out _ (by rfl)).mono ?_; rintro e w5 ⟨rfl, hf5⟩; have keep : ∀ (a : Addr) (v : Value), w.cell? a = some v → w5.cell? a = some v := fun a v hv => (hf5.cell (a := a) (by exact lt_of_cell hv) (by simp)).trans hv; have dd := And.intro (keep _ _ cq) (And.intro (keep _ _ d0) (And.intro (keep _ _ d1) (And.intro (keep _ _ d2) (And.intro (keep _ _ d3) (And.intro (keep _ _ d4) (And.intro (keep _ _ d5) (And.intro (keep _ _ d6) (keep _ _ d7))))))))))
    all_goals
      have hf6 : Fr [] w w5 := hf5.hd rfl rfl rfl rfl
      have G5 := Lib.hid (HG.out.fr hf6 (by simp))
      have Q5 := Lib.hid (H2.out.fr hf6 (by simp))
      have F6 := Lib.hid hf6
      have e7 := dd.2.2.2.2.2.2.2.2
      have f7 := G5.out.froz (i * 8 + 7)
      have eq := Q5.out.cell 0
      have fq := Q5.out.froz 0
      simp only [List.getElem?_toArray, List.getElem?_cons_zero] at eq
      clear hf5 hf6 dd d0 d1 d2 d3 d4 d5 d6 d7 cq C
      go_wp2_with fail
      go_end0
    refine ⟨⟨_, rfl⟩, ?_, ?_, ((F6.out.more (T := [g, q2]) (by simp)).set (.inl (by simp)) _).set (.inl (by simp)) _⟩
    · have := (G5.out.set (i * 8 + 7) (.bool false)).far (show g ≠ q2 from hgq) (a := ⟨q2, 0, none⟩) (.int .i64 (k + 1))
      rw [List.setIfInBounds_toArray, cat_off l i c HI.out] at this
      exact this
    · exact (Q5.out.far (show q2 ≠ g from fun e => hgq e.symm) (a := ⟨g, i * 8 + 7, none⟩) (.bool false)).set 0 _
  · rw [Bool.not_eq_true] at hb
    rw [hb] at C ⊢
    simp only [Bool.false_eq_true, if_false, Nat.add_zero]
    clear h hg hi h1 h2 hb
    go_enter Try.func90, Try.ntmps90
    go_wp2_with fail
    go_region_held3 (fun w' => w'.cell? ⟨q1, 0, none⟩ = some (.func (.func 60) #[.agg #[.pointer pv]] #[]) ∧ w'.cell? ⟨g, i * 8, none⟩ = some (.int .u32 c.cur) ∧ w'.cell? ⟨g, i * 8 + 1, none⟩ = some (.int .u8 c.e) ∧ w'.cell? ⟨g, i * 8 + 2, none⟩ = some (.int .u16 c.b) ∧ w'.cell? ⟨g, i * 8 + 3, none⟩ = some (.int .u16 c.t) ∧ w'.cell? ⟨g, i * 8 + 4, none⟩ = some (.int .u16 c.pm) ∧ w'.cell? ⟨g, i * 8 + 5, none⟩ = some (.int .u16 c.ty) ∧ w'.cell? ⟨g, i * 8 + 6, none⟩ = some (.int .u32 c.rs) ∧ w'.cell? ⟨g, i * 8 + 7, none⟩ = some (.bool c.v)) (first | exact ⟨cq, d0, d1, d2, d3, d4, d5, d6, d7⟩ | exact dd | go_keep) ((go_at_call 60; refine (C.out _ (by rfl)).mono ?_; rintro e w5 ⟨rfl, hf5⟩; have keep : ∀ (a : Addr) (v : Value), w.cell? a = some v → w5.cell? a = some v := fun a v hv => (hf5.cell (a := a) (by exact lt_of_cell hv) (by simp)).trans hv; have dd := And.intro (keep _ _ cq) (And.intro (keep _ _ d0) (And.intro (keep _ _ d1) (And.intro (keep _ _ d2) (And.intro (keep _ _ d3) (And.intro (keep _ _ d4) (And.intro (keep _ _ d5) (And.intro (keep _ _ d6) (keep _ _ d7))))))))))
    all_goals
      have hf6 : Fr [] w w5 := hf5.hd rfl rfl rfl rfl
      have G5 := Lib.hid (HG.out.fr hf6 (by simp))
      have Q5 := Lib.hid (H2.out.fr hf6 (by simp))
      have F6 := Lib.hid hf6
      have e7 := dd.2.2.2.2.2.2.2.2
      have f7 := G5.out.froz (i * 8 + 7)
      have eq := Q5.out.cell 0
      have fq := Q5.out.froz 0
      simp only [List.getElem?_toArray, List.getElem?_cons_zero] at eq
      clear hf5 hf6 dd d0 d1 d2 d3 d4 d5 d6 d7 cq C
      go_wp2_with fail
      go_end0
    refine ⟨⟨_, rfl⟩, ?_, Q5.out, F6.out.more (by simp)⟩
    have hset : l.set i c = l := by
      obtain ⟨hlt, he⟩ := List.getElem?_eq_some_iff.1 HI.out
      rw [← he]; exact List.set_getElem_self hlt
    rw [hset]
    exact G5.out
end Go.Proofs.Ytilgklpponaoeaa
