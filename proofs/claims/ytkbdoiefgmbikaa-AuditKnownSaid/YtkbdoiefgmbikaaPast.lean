/-
  What a history has come to, in memory: a past at block p over a map of grants and a map of asks. No condition.
-/


import Derived.Test.YtkbdoiefgmbikaaMaps
import Derived.Test.YtkbdoiefgmbikaaPlain
import Derived.Test.YtkbdoiefgmbikaaCells
import Derived.Test.YtkbdoiefgmbikaaHeld
import Derived.Deep.CutBlock
import Derived.Deep.DeepCutAuto
import Derived.BigRegion
set_option linter.unusedVariables false
namespace Go.Proofs.Ytkbdoiefgmbikaa
open Go.ChangeShapes Go.WideShapes Go.ChangeAt Go.RowKit
def Ev.cells (e : Ev) : Array Value := #[.int .i64 e.kind, .int .i64 e.hart, .int .u32 e.val, .int .u64 e.num, .int .u32 e.a, .int .u32 e.s]
def Gr.cells (g : Gr) : Array Value := #[.int .u32 g.a, .int .u32 g.s, .bool g.rests, .bool g.batch, .int .i64 g.freed]
def Ak.cells (k : Ak) : Array Value := #[.int .i64 k.t, .int .i64 k.e]
def Gr.v (g : Gr) : Value := .agg g.cells
def Ak.v (k : Ak) : Value := .agg k.cells
def gO (l : List Gr) (j : Int) : Option Gr := l.find? fun g => (g.n : Int) == j
def aO (l : List Ak) (j : Int) : Option Ak := l.find? fun k => k.h == j
def gF (l : List Gr) (j : Int) : Option Value := (gO l j).map Gr.v
def aF (l : List Ak) (j : Int) : Option Value := (aO l j).map Ak.v
def Sx.cells (x : Sx) (ha hs bg ba : Nat) : Array Value := #[.int .u32 ha, .int .u32 hs, .map (some bg), .int .u64 x.num, .bool x.sw, .int .u64 x.sws, .map (some ba)]
structure Past (w : World) (p bg ba : Nat) (ha hs : Nat) (x : Sx) (i : Nat) : Prop where
  at_ : At w p 76 (x.cells ha hs bg ba)
  gm : Mp Try.prog 39 .u64 w bg i (gF x.gs)
  am : Mp Try.prog 3 .i64 w ba i (aF x.ks)
  ne : bg ≠ ba
  good : x.Good i
  h1 : ha < 4294967296
  h2 : hs < 4294967296
theorem Past.fr {w w' : World} {p bg ba ha hs : Nat} {x : Sx} {i : Nat} {S : List Nat} (h : Past w p bg ba ha hs x i) (f : Fr S w w') (h1 : p ∉ S) (h2 : bg ∉ S) (h3 : ba ∉ S) : Past w' p bg ba ha hs x i :=
  ⟨h.at_.fr f h1, h.gm.fr f h2, h.am.fr f h3, h.ne, h.good, h.h1, h.h2⟩
theorem Past.fr0 {w w' : World} {p bg ba ha hs : Nat} {x : Sx} {i : Nat} (h : Past w p bg ba ha hs x i) (f : Fr [] w w') : Past w' p bg ba ha hs x i := h.fr f (by simp) (by simp) (by simp)
theorem Past.more {w : World} {p bg ba ha hs : Nat} {x : Sx} {i : Nat} (h : Past w p bg ba ha hs x i) : Past w p bg ba ha hs x (i + 1) :=
  ⟨h.at_, h.gm.mono (by omega), h.am.mono (by omega), h.ne, h.good.more, h.h1, h.h2⟩
theorem At.two {W : World} {g : Nat} {t : TypeId} {cs : Array Value} (h : At W g t cs) (k : Nat) (a b : Value) (h0 : cs[k]? = some a) (h1 : cs[k + 1]? = some b) : ∀ j v, [a, b][j]? = some v → W.cell? ((⟨g, k, none⟩ : Addr).add j) = some v := fun j v hv => by
  rw [Go.WideShapes.add_plain, h.cell]
  match j, hv with
  | 0, hv => rw [Nat.add_zero, h0]; exact hv
  | 1, hv => rw [h1]; exact hv
theorem At.all {W : World} {g : Nat} {t : TypeId} {cs : Array Value} (h : At W g t cs) (l : List Value) (hl : cs = l.toArray) : ∀ j v, l[j]? = some v → W.cell? ((⟨g, 0, none⟩ : Addr).add j) = some v := fun j v hv => by
  rw [Go.WideShapes.add_plain, h.cell, hl, Nat.zero_add, List.getElem?_toArray]
  exact hv
theorem wu (n : Nat) (h : n < 18446744073709551616) : IntKind.u64.wrap (n : Int) = n := by
  simp [IntKind.wrap, IntKind.signed, IntKind.bits]; omega
theorem gO_map (l : List Gr) (h : Gr → Gr) (hn : ∀ g, (h g).n = g.n) (j : Int) : gO (l.map h) j = (gO l j).map h := by
  unfold gO
  rw [List.find?_map]
  congr 2
  funext g
  simp [hn]
theorem aO_map (l : List Ak) (h : Ak → Ak) (hn : ∀ g, (h g).h = g.h) (j : Int) : aO (l.map h) j = (aO l j).map h := by
  unfold aO
  rw [List.find?_map]
  congr 2
  funext g
  simp [hn]
theorem infoGr : (Try.prog.info? 91).map (·.size) = some 5 := by kernel_rfl
theorem infoAk : (Try.prog.info? 95).map (·.size) = some 2 := by kernel_rfl
theorem infoEv : (Try.prog.info? 41).map (·.size) = some 6 := by kernel_rfl
theorem zeroGr (W : World) : (zeroValue 91).run Try.prog W = .ok (.agg #[.int .u32 0, .int .u32 0, .bool false, .bool false, .int .i64 0]) W := by kernel_rfl
theorem zeroAk (W : World) : (zeroValue 95).run Try.prog W = .ok (.agg #[.int .i64 0, .int .i64 0]) W := by kernel_rfl
theorem gO_nat (l : List Gr) (n : Nat) : gO l n = findG l n := by
  unfold gO findG
  congr 1
  funext g
  rw [Bool.eq_iff_iff]
  simp only [beq_iff_eq]
  omega
theorem aO_eq (l : List Ak) (h : Int) : aO l h = findA l h := rfl
theorem gO_mem {l : List Gr} {j : Int} {g : Gr} (h : gO l j = some g) : g ∈ l ∧ (g.n : Int) = j := ⟨List.mem_of_find?_eq_some h, by simpa using List.find?_some h⟩
theorem aO_mem {l : List Ak} {j : Int} {g : Ak} (h : aO l j = some g) : g ∈ l ∧ g.h = j := ⟨List.mem_of_find?_eq_some h, by simpa using List.find?_some h⟩
theorem gO_of {l : List Gr} (h : (l.map (·.n)).Nodup) {g : Gr} (hg : g ∈ l) : gO l g.n = some g := by rw [gO_nat]; exact findG_of h hg
def gL (l : List Gr) (left : Int → Bool) (j : Int) : Option Gr := (gO l j).map fun g => if left j = true then g else { g with batch := g.rests }
theorem gL_all (l : List Gr) (left : Int → Bool) (h : ∀ g ∈ l, left g.n = true) (j : Int) : gL l left j = gO l j := by
  unfold gL
  cases hg : gO l j with
  | none => rfl
  | some g =>
    obtain ⟨h1, h2⟩ := gO_mem hg
    rw [Option.map_some, ← h2, h g h1, if_pos rfl]
theorem gL_none (l : List Gr) (left : Int → Bool) (h : ∀ j, left j = false) (j : Int) : gL l left j = gO (l.map fun g => { g with batch := g.rests }) j := by
  rw [gO_map l (fun g => { g with batch := g.rests }) (fun _ => rfl)]
  unfold gL
  rw [h j]
  rfl
theorem gL_step (l : List Gr) (left : Int → Bool) {j : Int} {c : Gr} (h : gO l j = some c) (m : Int) : (if m = j then some (.agg #[.int .u32 c.a, .int .u32 c.s, .bool c.rests, .bool c.rests, .int .i64 c.freed]) else (gL l left m).map Gr.v) = (gL l (fun m => if m = j then false else left m) m).map Gr.v := by
  by_cases hm : m = j
  · subst hm
    simp [gL, h, Gr.v, Gr.cells]
  · rw [if_neg hm]
    unfold gL
    simp only [if_neg hm]
def aL (l : List Ak) (left : Int → Bool) (j : Int) : Option Ak := (aO l j).map fun k => if left j = true then k else { k with e := k.e + 1 }
theorem aO_of {l : List Ak} (h : (l.map (·.h)).Nodup) {g : Ak} (hg : g ∈ l) : aO l g.h = some g := by
  unfold aO
  induction l with
  | nil => cases hg
  | cons a l ih =>
    simp only [List.map_cons, List.nodup_cons, List.mem_map, not_exists, not_and] at h
    rcases List.mem_cons.1 hg with rfl | hg
    · simp
    · rw [List.find?_cons_of_neg (by simpa using fun e => h.1 g hg e.symm)]
      exact ih h.2 hg
theorem aL_all (l : List Ak) (left : Int → Bool) (h : ∀ g ∈ l, left g.h = true) (j : Int) : aL l left j = aO l j := by
  unfold aL
  cases hg : aO l j with
  | none => rfl
  | some g =>
    obtain ⟨h1, h2⟩ := aO_mem hg
    rw [Option.map_some, ← h2, h g h1, if_pos rfl]
theorem aL_none (l : List Ak) (left : Int → Bool) (h : ∀ j, left j = false) (j : Int) : aL l left j = aO (l.map fun k => { k with e := k.e + 1 }) j := by
  rw [aO_map l (fun k => { k with e := k.e + 1 }) (fun _ => rfl)]
  unfold aL
  rw [h j]
  rfl
theorem aL_step (l : List Ak) (left : Int → Bool) {j : Int} {c : Ak} (h : aO l j = some c) (m : Int) : (if m = j then some (.agg #[.int .i64 c.t, .int .i64 ((c.e : Int) + 1)]) else (aL l left m).map Ak.v) = (aL l (fun m => if m = j then false else left m) m).map Ak.v := by
  by_cases hm : m = j
  · subst hm
    simp [aL, h, Ak.v, Ak.cells]
  · rw [if_neg hm]
    unfold aL
    simp only [if_neg hm]
theorem aO_drop (l : List Ak) (h j : Int) : aO (l.filter fun k => !(k.h == h)) j = if j = h then none else aO l j := by
  unfold aO
  rw [List.find?_filter]
  by_cases hj : j = h
  · subst hj
    rw [if_pos rfl]
    simp
  · rw [if_neg hj]
    congr 1
    funext k
    by_cases hk : k.h = j
    · subst hk
      simp [hj]
    · simp [hk]
theorem gO_drop (l : List Gr) (n : Nat) (j : Int) : gO (l.filter fun g => !(g.n == n)) j = if j = n then none else gO l j := by
  unfold gO
  rw [List.find?_filter]
  by_cases hj : j = n
  · subst hj
    rw [if_pos rfl]
    simp
    intro g hg h1 h2
    omega
  · rw [if_neg hj]
    congr 1
    funext g
    by_cases hk : (g.n : Int) = j
    · subst hk
      have : ¬ g.n = n := by omega
      simp [this]
    · simp [hk]
theorem wp_store_y {P : Program} {K : Act → World → Prop} {Q : Exit → Act → World → Prop} {o : Oper} {a : Act} {w : World} (ty : TypeId) (x y : Operand) (ho : o.op = .store ty x y) (g : Nat) (cs : Array Value) (hx : a.eval x = .pointer (some ⟨g, 0, none⟩)) (hy : a.eval y = .agg cs)
    (t : TypeId) (cur : Array Value) (hg : At w g t cur) (hi : (P.info? ty).map (·.size) = some cs.size) (hk : cur.size = cs.size) (h1 : cs.all (·.oneCell') = true)
    (h : ∀ w', At w' g t cs → Fr [g] w w' → K (a.put o.dst undef) w') : o.wp P a w K Q :=
  wp_store_row ty x y ho g cs hx hy t cur hg hi hk h1 (h _ (setRow_heap w g _ _ t (0, 0) hg) (Fr.setRow w g _))
theorem gO_upd (l : List Gr) (n i : Nat) {g : Gr} (h : findG l n = some g) (j : Int) : gF (l.map fun g => if g.n = n then { g with rests := true, freed := i } else g) j = if j = n then some (.agg #[.int .u32 g.a, .int .u32 g.s, .bool true, .bool g.batch, .int .i64 i]) else gF l j := by
  unfold gF
  rw [gO_map l (fun g => if g.n = n then { g with rests := true, freed := i } else g) (fun g => by split <;> rfl)]
  by_cases hj : j = n
  · subst hj
    rw [if_pos rfl, gO_nat, h]
    simp [(findG_mem h).2, Gr.v, Gr.cells]
  · rw [if_neg hj]
    cases hg : gO l j with
    | none => rfl
    | some g0 =>
      have := (gO_mem hg).2
      have hne : ¬ g0.n = n := by omega
      simp [hne]
theorem aO_snoc (l : List Ak) (h : Int) (i : Nat) (hnew : findA l h = none) (j : Int) : aF (l ++ [⟨h, i, 0⟩]) j = if j = h then some (.agg #[.int .i64 i, .int .i64 0]) else aF l j := by
  unfold aF aO
  rw [List.find?_append]
  by_cases hj : j = h
  · subst hj
    have : List.find? (fun k : Ak => k.h == j) l = none := hnew
    rw [if_pos rfl, this]
    simp [Ak.v, Ak.cells]
  · rw [if_neg hj]
    have : (List.find? (fun k : Ak => k.h == j) [⟨h, i, 0⟩]) = none := by simp; exact fun e => hj e.symm
    rw [this, Option.or_none]
theorem wf_u64 (n : Nat) (h : n < 18446744073709551616) : (Lit.int .u64 (n : Int)).wf = true := by
  have h1 : IntKind.u64.min = 0 := rfl
  have h2 : IntKind.u64.max = 18446744073709551615 := rfl
  simp [Lit.wf, h1, h2]; omega
theorem pend_any (w : World) (a s : Nat) (ha : a < 4294967296) (hs : s < 4294967296) :
    Calls Try.prog 62 #[.agg #[.int .u32 a, .int .u32 s]] w fun r w' => r = .returned (.int .u64 (a + s : Nat)) ∧ Fr [] w w' := by
  go_enter Try.func62, Try.ntmps62
  go_wp2
  go_ret
  exact ⟨by simp, (by repeat (first | exact Fr.refl _ _ | assumption | refine Fr.trans0 ?_ (by assumption) | refine Fr.drewN ?_ _ | refine Fr.alloc ?_ _ | refine Fr.drew ?_))⟩
end Go.Proofs.Ytkbdoiefgmbikaa
