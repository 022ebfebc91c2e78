/-
  Maps keyed by integers, of whatever elements: what a map's block holds as a function of the key (Mp), and a range over it under way (Mr): look-up, store, delete, range, the step, a store in the round at a key that is there. No condition.
-/

import Derived.Test.YtdbpmojblgmhdaaDoorBase
import Derived.Maps.RangeWalk
import Derived.Maps.OwnSet
import Derived.Maps.OwnOps
import Derived.Deep.RegionHeld3
set_option linter.unusedVariables false
namespace Go.Proofs.YtdbpmojblgmhdaaDoor
open Go.ChangeShapes Go.WideShapes Go.ChangeAt Go.RowKit
open Go.ChangeMaps Go.MapKept
open Go.Maps (Keyed int_keyed keyOf_int_mk keyOf_int_inv)
open Go.WideElems (Fit rd rg pl rd_key rd_val rg_of other_key)
/-! ### the block -/
def anyElem (_ : Value) : Option (DataW Unit × List MemPlace) := some (.agg [], [])
def Mp (P : Program) (k : TypeId) (q : IntKind) (w : World) (b n : Nat) (f : Int → Option Value) : Prop :=
  ∃ es clock, w.heap[b]? = some (.map es clock) ∧ Fit P k anyElem es clock ∧ es.size ≤ n ∧ ∀ j v, f j = some v ↔ ∃ x ∈ es.toList, x.key = .int q j ∧ x.val = v
def Mr (P : Program) (k : TypeId) (q : IntKind) (w : World) (b r n : Nat) (f : Int → Option Value) (left : Int → Bool) (cnt : Nat) : Prop :=
  ∃ es clock since seen c0, w.heap[b]? = some (.map es clock) ∧ Fit P k anyElem es clock ∧ es.size ≤ n ∧ (∀ j v, f j = some v ↔ ∃ x ∈ es.toList, x.key = .int q j ∧ x.val = v) ∧
    w.heap[r]? = some (.mapIter (some b) since seen c0) ∧ (∀ x ∈ es.toList, x.born < since) ∧ (leftOf es seen).size = cnt ∧
    (∀ x ∈ es.toList, ∀ j, x.key = .int q j → left j = !seen.contains x.born) ∧ (∀ j, left j = true → (f j).isSome = true) ∧ since ≤ c0 ∧ since ≤ clock
section
variable {P : Program} {k : TypeId} {q : IntKind} {w w' : World} {b r n cnt : Nat} {f : Int → Option Value} {left : Int → Bool}
theorem Mp.lt (h : Mp P k q w b n f) : b < w.heap.size := by
  obtain ⟨es, clock, hb, _⟩ := h
  exact (Array.getElem?_eq_some_iff.1 hb).1
theorem Mp.fr {S : List Nat} (h : Mp P k q w b n f) (g : Fr S w w') (hb : b ∉ S) : Mp P k q w' b n f := by
  have hl := h.lt
  obtain ⟨es, clock, h1, r⟩ := h
  exact ⟨es, clock, (g.keep b hl hb).trans h1, r⟩
theorem Mp.fr0 (h : Mp P k q w b n f) (g : Fr [] w w') : Mp P k q w' b n f := h.fr g (by simp)
theorem Mp.drewN (h : Mp P k q w b n f) (m : Nat) : Mp P k q (w.drewN m) b n f := h
theorem Mp.mono (h : Mp P k q w b n f) {n' : Nat} (hn : n ≤ n') : Mp P k q w b n' f := by
  obtain ⟨es, clock, h1, h2, h3, h4⟩ := h
  exact ⟨es, clock, h1, h2, Nat.le_trans h3 hn, h4⟩
theorem Mp.set (h : Mp P k q w b n f) {a : Addr} (ha : b ≠ a.block) (u : Value) : Mp P k q (w.setCell a u) b n f := by
  obtain ⟨es, clock, h1, r⟩ := h
  exact ⟨es, clock, (Below.heap_setCell w a u b ha).trans h1, r⟩
theorem Mp.ne {g : Nat} {t : TypeId} {cs : Array Value} (h : Mp P k q w b n f) (hg : At w g t cs) : b ≠ g := by
  rintro rfl
  obtain ⟨es, clock, h1, r⟩ := h
  unfold At at hg
  rw [h1] at hg
  cases hg
theorem Mp.congr {f' : Int → Option Value} (h : Mp P k q w b n f) (hf : ∀ j, f j = f' j) : Mp P k q w b n f' := by
  obtain rfl : f = f' := funext hf
  exact h
theorem Mp.made (P : Program) (k : TypeId) (q : IntKind) (w : World) : Mp P k q (w.alloc (.map #[] 0)) w.heap.size 0 (fun _ => none) :=
  ⟨#[], 0, heap_alloc_new w _, ⟨by simp, stamped_empty 0, by simp⟩, by simp, by simp⟩
theorem fit_key {es : Array MapEntry} {clock : Nat} (hk : P.underlying k = some (.int q)) (F : Fit P k anyElem es clock) {x : MapEntry} (hx : x ∈ es.toList) : ∃ j, x.key = .int q j ∧ (Lit.int q j).wf = true := by
  obtain ⟨l, hl⟩ := F.keys x hx
  obtain ⟨j, h1, h2, h3⟩ := keyOf_int_inv hk hl
  exact ⟨j, h1, h3⟩
theorem fit_once {es : Array MapEntry} {clock : Nat} (F : Fit P k anyElem es clock) {x y : MapEntry} (hx : x ∈ es.toList) (hy : y ∈ es.toList) (h : x.key = y.key) : x = y :=
  entry_eq_of_key ((stamped_iff es clock).1 F.stamped).2.2 hx hy h
/-- 'v, ok := m[j]' -/
theorem Mp.look (h : Mp P k q w b n f) (hk : P.underlying k = some (.int q)) {t e : TypeId} (ht : P.underlying t = some (.map k e)) {z : Value} (hz : (zeroValue e).run P w = .ok z w) (c : Bool) {j : Int} (hj : (Lit.int q j).wf = true) :
    (Instr.lookup t (.map (some b)) (.int q j) c).run P w = .ok (if c then .tuple #[(f j).getD z, .bool (f j).isSome] else (f j).getD z) w := by
  obtain ⟨es, clock, hb, F, _, hf⟩ := h
  rcases Maps.fit_look c (int_keyed hk) ht hz hb F (keyOf_int_mk hk hj) with ⟨hrun, hno, _⟩ | ⟨e0, y, he, hkey, hrun, _⟩
  · have hn : f j = none := by
      cases hfj : f j with
      | none => rfl
      | some v =>
        obtain ⟨x, hx, hxk, _⟩ := (hf j v).1 hfj
        exact absurd hxk (hno x hx)
    rw [hrun, hn]
    rfl
  · rw [hrun, (hf j e0.val).2 ⟨e0, he, hkey, rfl⟩]
    rfl
theorem store_core {t e : TypeId} (hk : P.underlying k = some (.int q)) (ht : P.underlying t = some (.map k e)) {es : Array MapEntry} {clock : Nat} (hb : w.heap[b]? = some (.map es clock)) (F : Fit P k anyElem es clock) (hroom : es.size < maxLen) {j : Int} (hj : (Lit.int q j).wf = true) (v : Value) :
    ((∀ x ∈ es.toList, x.key ≠ .int q j) ∧ (Instr.mapUpdate t (.map (some b)) (.int q j) v).run P w = .ok () (setBlock w b (.map (es.push ⟨.int q j, v, clock⟩) (clock + 1))) ∧ Fit P k anyElem (es.push ⟨.int q j, v, clock⟩) (clock + 1)) ∨
    ∃ i e0 es', es[i]? = some e0 ∧ e0.key = .int q j ∧ es'.toList = es.toList.set i ⟨.int q j, v, e0.born⟩ ∧ (Instr.mapUpdate t (.map (some b)) (.int q j) v).run P w = .ok () (setBlock w b (.map es' clock)) ∧ Fit P k anyElem es' clock := by
  have hkey := keyOf_int_mk hk hj
  have K := int_keyed (P := P) hk
  rcases K.find w hkey es.toList F.keys with ⟨h1, h2⟩ | ⟨i, e0, h1, h2, h3⟩
  · refine .inl ⟨h2, ?_, ⟨by simp; omega, stamped_push F.stamped h2, ?_⟩⟩
    · simp [Instr.mapUpdate, run_underlying ht, MapKept.run_getObj_map hb, K.check w false hkey, h1, MapKept.run_setObj_map _ hb, Result.andThen, setBlock]
    · intro x hx
      simp only [Array.toList_push, List.mem_append, List.mem_singleton] at hx
      rcases hx with hx | rfl
      · exact F.reads x hx
      · exact ⟨_, Go.WideElems.rd_mk hkey rfl⟩
  · have hi : es[i]? = some e0 := by simpa using h2
    have hkeyf : ∀ e', es[i]? = some e' → ({ e' with key := .int q j, val := v } : MapEntry).key = e'.key := fun e' he' => by rw [hi] at he'; cases he'; exact h3.symm
    have hlist : (es.modify i (fun e' => { e' with key := .int q j, val := v })).toList = es.toList.set i ⟨.int q j, v, e0.born⟩ := by rw [Array.toList_modify, ChangeMaps.modify_eq_set _ _ _ _ h2]
    refine .inr ⟨i, e0, es.modify i (fun e' => { e' with key := .int q j, val := v }), hi, h3, hlist, ?_, ⟨by simpa using F.size, stamped_modify F.stamped _ _ (fun _ _ => rfl) (fun e' _ he' => hkeyf e' he'), ?_⟩⟩
    · simp [Instr.mapUpdate, run_underlying ht, MapKept.run_getObj_map hb, K.check w false hkey, h1, hi, h3, K.stays w hkey, MapKept.run_setObj_map _ hb, Result.andThen, setBlock]
    · intro x hx
      rw [hlist] at hx
      rcases List.mem_or_eq_of_mem_set hx with hx' | rfl
      · exact F.reads x hx'
      · exact ⟨_, Go.WideElems.rd_mk hkey rfl⟩
theorem mem_set {es : Array MapEntry} {clock : Nat} (F : Fit P k anyElem es clock) {i : Nat} {e0 : MapEntry} {j : Int} (hi : es[i]? = some e0) (h3 : e0.key = .int q j) (v : Value) (x : MapEntry) :
    x ∈ es.toList.set i ⟨.int q j, v, e0.born⟩ ↔ x = ⟨.int q j, v, e0.born⟩ ∨ (x ∈ es.toList ∧ x.key ≠ .int q j) := by
  have h2 : es.toList[i]? = some e0 := by simpa using hi
  have hil : i < es.toList.length := (List.getElem?_eq_some_iff.1 h2).1
  constructor
  · intro hx
    obtain ⟨m, hm, ex⟩ := List.getElem_of_mem hx
    rw [List.getElem_set] at ex
    split at ex
    · exact .inl ex.symm
    · rename_i hne
      have hm' : m < es.toList.length := by simpa using hm
      refine .inr ⟨ex ▸ List.getElem_mem hm', ?_⟩
      rw [← h3]
      exact other_key F h2 (by rw [List.getElem?_eq_getElem hm', ex]) (fun e1 => hne e1.symm)
  · rintro (rfl | ⟨hx, hne⟩)
    · exact List.mem_iff_getElem.2 ⟨i, by simpa using hil, by simp⟩
    · obtain ⟨m, hm, ex⟩ := List.getElem_of_mem hx
      have hmi : i ≠ m := by
        rintro rfl
        rw [List.getElem?_eq_getElem hm, ex] at h2
        cases h2
        exact hne h3
      exact List.mem_iff_getElem.2 ⟨m, by simpa using hm, by rw [List.getElem_set, if_neg hmi, ex]⟩
theorem put_set {es : Array MapEntry} {clock : Nat} (F : Fit P k anyElem es clock) (hf : ∀ j v, f j = some v ↔ ∃ x ∈ es.toList, x.key = .int q j ∧ x.val = v) {i : Nat} {e0 : MapEntry} {j : Int} (hi : es[i]? = some e0) (h3 : e0.key = .int q j) (v : Value) :
    ∀ m u, (if m = j then some v else f m) = some u ↔ ∃ x ∈ es.toList.set i ⟨.int q j, v, e0.born⟩, x.key = .int q m ∧ x.val = u := by
  intro m u
  by_cases hm : m = j
  · subst hm
    rw [if_pos rfl]
    constructor
    · intro h
      cases h
      exact ⟨_, (mem_set F hi h3 v _).2 (.inl rfl), rfl, rfl⟩
    · rintro ⟨x, hx, hxk, rfl⟩
      rcases (mem_set F hi h3 v x).1 hx with rfl | ⟨_, hne⟩
      · rfl
      · exact absurd hxk hne
  · rw [if_neg hm, hf]
    constructor
    · rintro ⟨x, hx, hxk, hxv⟩
      exact ⟨x, (mem_set F hi h3 v x).2 (.inr ⟨hx, by rw [hxk]; intro e; injection e with _ e; exact hm e⟩), hxk, hxv⟩
    · rintro ⟨x, hx, hxk, hxv⟩
      rcases (mem_set F hi h3 v x).1 hx with rfl | ⟨hx', _⟩
      · simp at hxk; exact absurd hxk.symm hm
      · exact ⟨x, hx', hxk, hxv⟩
theorem put_push {es : Array MapEntry} {c : Nat} (hf : ∀ j v, f j = some v ↔ ∃ x ∈ es.toList, x.key = .int q j ∧ x.val = v) {j : Int} (hno : ∀ x ∈ es.toList, x.key ≠ .int q j) (v : Value) :
    ∀ m u, (if m = j then some v else f m) = some u ↔ ∃ x ∈ (es.push ⟨.int q j, v, c⟩).toList, x.key = .int q m ∧ x.val = u := by
  intro m u
  simp only [Array.toList_push, List.mem_append, List.mem_singleton]
  by_cases hm : m = j
  · subst hm
    rw [if_pos rfl]
    constructor
    · intro h; cases h; exact ⟨_, .inr rfl, rfl, rfl⟩
    · rintro ⟨x, hx | rfl, hxk, rfl⟩
      · exact absurd hxk (hno x hx)
      · rfl
  · rw [if_neg hm, hf]
    constructor
    · rintro ⟨x, hx, r⟩; exact ⟨x, .inl hx, r⟩
    · rintro ⟨x, hx | rfl, hxk, hxv⟩
      · exact ⟨x, hx, hxk, hxv⟩
      · simp at hxk; exact absurd hxk.symm hm
theorem grown_set {es : Array MapEntry} {clock : Nat} (hb : w.heap[b]? = some (.map es clock)) (o : Obj) : w.grownBy (setBlock w b o) (some b) :=
  ⟨rfl, rfl, rfl, by simp [setBlock], fun i _ hi => heap_setBlock_other hb _ (fun e => hi (by rw [e]))⟩
/-- 'm[j] = v' -/
theorem Mp.store (h : Mp P k q w b n f) (hk : P.underlying k = some (.int q)) {t e : TypeId} (ht : P.underlying t = some (.map k e)) (hn : n < maxLen) {j : Int} (hj : (Lit.int q j).wf = true) (v : Value) :
    ∃ w', (Instr.mapUpdate t (.map (some b)) (.int q j) v).run P w = .ok () w' ∧ Mp P k q w' b (n + 1) (fun m => if m = j then some v else f m) ∧ Fr [b] w w' ∧ w'.heap.size = w.heap.size := by
  obtain ⟨es, clock, hb, F, hs, hf⟩ := h
  rcases store_core hk ht hb F (Nat.lt_of_le_of_lt hs hn) hj v with ⟨hno, hrun, F'⟩ | ⟨i, e0, es', hi, h3, hl, hrun, F'⟩
  · exact ⟨_, hrun, ⟨_, _, heap_setBlock_same hb _, F', by simp; omega, put_push hf hno v⟩, Fr.grown (grown_set hb _), by simp [setBlock]⟩
  · refine ⟨_, hrun, ⟨_, _, heap_setBlock_same hb _, F', ?_, ?_⟩, Fr.grown (grown_set hb _), by simp [setBlock]⟩
    · have : es'.toList.length = es.toList.length := by rw [hl]; simp
      simp at this
      omega
    · rw [hl]; exact put_set F hf hi h3 v
/-- 'delete(m, j)' -/
theorem Mp.drop (h : Mp P k q w b n f) (hk : P.underlying k = some (.int q)) {t e : TypeId} (ht : P.underlying t = some (.map k e)) {j : Int} (hj : (Lit.int q j).wf = true) (ty : TypeId) :
    ∃ w', (Builtin.delete_ #[t, k] ty #[.map (some b), .int q j]).run P w = .ok (.tuple #[]) w' ∧ Mp P k q w' b n (fun m => if m = j then none else f m) ∧ Fr [b] w w' ∧ w'.heap.size = w.heap.size := by
  obtain ⟨es, clock, hb, F, hs, hf⟩ := h
  obtain ⟨es', hrun, F', hle, _, _, hwho⟩ := fit_drop_who (ty := ty) (int_keyed hk) ht hb F (keyOf_int_mk hk hj)
  refine ⟨_, hrun, ⟨_, _, heap_setBlock_same hb _, F', Nat.le_trans hle hs, fun m u => ?_⟩, Fr.grown (grown_set hb _), by simp [setBlock]⟩
  dsimp only
  by_cases hm : m = j
  · subst hm
    rw [if_pos rfl]
    constructor
    · intro h; cases h
    · rintro ⟨x, hx, hxk, _⟩; exact absurd hxk ((hwho x).1 hx).2
  · rw [if_neg hm, hf]
    constructor
    · rintro ⟨x, hx, hxk, hxv⟩
      exact ⟨x, (hwho x).2 ⟨hx, by rw [hxk]; intro e; injection e with _ e; exact hm e⟩, hxk, hxv⟩
    · rintro ⟨x, hx, r⟩; exact ⟨x, ((hwho x).1 hx).1, r⟩
/-! ### a range over it -/
theorem Mr.mp (h : Mr P k q w b r n f left cnt) : Mp P k q w b n f := by
  obtain ⟨es, clock, _, _, _, hb, F, hs, hf, _⟩ := h
  exact ⟨es, clock, hb, F, hs, hf⟩
theorem Mr.left_eq (h : Mr P k q w b r n f left cnt) : w.rangeLeft b r = cnt := by
  obtain ⟨es, clock, since, seen, c0, hb, _, _, _, hr, _, hc, _⟩ := h
  simp only [World.rangeLeft, hb, hr]
  exact hc
theorem Mr.ne (h : Mr P k q w b r n f left cnt) : r ≠ b := by
  obtain ⟨es, clock, since, seen, c0, hb, _, _, _, hr, _⟩ := h
  intro e
  rw [e, hb] at hr
  cases hr
theorem Mr.lt (h : Mr P k q w b r n f left cnt) : r < w.heap.size := by
  obtain ⟨es, clock, since, seen, c0, _, _, _, _, hr, _⟩ := h
  exact (Array.getElem?_eq_some_iff.1 hr).1
theorem Mr.fr {S : List Nat} (h : Mr P k q w b r n f left cnt) (g : Fr S w w') (hb' : b ∉ S) (hr' : r ∉ S) : Mr P k q w' b r n f left cnt := by
  have h1 := h.mp.lt
  have h2 := h.lt
  obtain ⟨es, clock, since, seen, c0, hb, F, hs, hD, hr, rest⟩ := h
  exact ⟨es, clock, since, seen, c0, (g.keep b h1 hb').trans hb, F, hs, hD, (g.keep r h2 hr').trans hr, rest⟩
theorem Mr.fr0 (h : Mr P k q w b r n f left cnt) (g : Fr [] w w') : Mr P k q w' b r n f left cnt := h.fr g (by simp) (by simp)
theorem Mr.congr {f' : Int → Option Value} {left' : Int → Bool} (h : Mr P k q w b r n f left cnt) (hf : ∀ j, f j = f' j) (hl : ∀ j, left j = left' j) : Mr P k q w b r n f' left' cnt := by
  obtain rfl : f = f' := funext hf
  obtain rfl : left = left' := funext hl
  exact h
theorem Mp.range (h : Mp P k q w b n f) (hk : P.underlying k = some (.int q)) {t e : TypeId} (ht : P.underlying t = some (.map k e)) :
    ∃ w' cnt, (Instr.range t (.map (some b))).run P w = .ok (.pointer (some ⟨w.heap.size, 0, none⟩)) w' ∧ Mr P k q w' b w.heap.size n f (fun j => (f j).isSome) cnt ∧ Fr [] w w' ∧ w'.heap.size = w.heap.size + 1 := by
  have hlt := h.lt
  obtain ⟨es, clock, hb, F, hs, hf⟩ := h
  refine ⟨_, _, run_range_map w t k e b es clock ht hb, ⟨es, clock, clock, #[], clock, ((MapKept.heap_alloc w _).2 b hlt).trans hb, F, hs, hf, (MapKept.heap_alloc w _).1, F.stamped.1, rfl, ?_, fun _ h => h, Nat.le_refl _, Nat.le_refl _⟩, Fr.grown (World.grownBy_alloc w _ none), by simp⟩
  intro x hx j hj
  dsimp only
  rw [(hf j x.val).2 ⟨x, hx, hj, rfl⟩]
  simp
theorem Mr.next (h : Mr P k q w b r n f left cnt) (hk : P.underlying k = some (.int q)) (ty : TypeId) :
    (cnt = 0 ∧ (∀ j, left j = false) ∧ (Instr.next (.pointer (some ⟨r, 0, none⟩)) false ty).run P w = .ok (.tuple #[.bool false]) w) ∨
    ∃ j v w' cnt', (Lit.int q j).wf = true ∧ left j = true ∧ f j = some v ∧ (Instr.next (.pointer (some ⟨r, 0, none⟩)) false ty).run P w = .ok (.tuple #[.bool true, .int q j, v]) w' ∧
      Mr P k q w' b r n f (fun m => if m = j then false else left m) cnt' ∧ cnt' < cnt ∧ Fr [r] w w' ∧ w'.heap.size = w.heap.size ∧ (Instr.entry (.pointer (some ⟨r, 0, none⟩))).run P w' = .ok (.tuple #[.int q j, v]) w' := by
  have hne := h.ne
  obtain ⟨es, clock, since, seen, c0, hb, F, hs, hf, hr, hold, rfl, hl1, hl2, hsc, hsk⟩ := h
  rcases run_next_at (P := P) w ty r b since c0 seen es clock hr hb hold hsc with ⟨h0, hrun⟩ | ⟨e, he, w1, hal, hrun⟩
  · refine .inl ⟨h0, fun j => ?_, hrun⟩
    cases hj : left j
    · rfl
    · obtain ⟨v, hv⟩ := Option.isSome_iff_exists.1 (hl2 j hj)
      obtain ⟨x, hx, hxk, _⟩ := (hf j v).1 hv
      rw [hl1 x hx j hxk, all_seen es seen h0 x hx] at hj
      cases hj
  · obtain ⟨hem, hes⟩ := mem_left he
    obtain ⟨j, hj, hwj⟩ := fit_key hk F hem
    have hr1 : w1.heap[r]? = some (.mapIter (some b) since seen c0) := by rcases hal with rfl | rfl <;> exact hr
    have hb1 : w1.heap[b]? = some (.map es clock) := by rcases hal with rfl | rfl <;> exact hb
    have hset := heap_set (o' := .mapIter (some b) since (seen.push e.born) clock) hr1
    have hb' : (setBlock w1 r (.mapIter (some b) since (seen.push e.born) clock)).heap[b]? = some (.map es clock) := (hset.2 b (fun e1 => hne e1.symm)).trans hb1
    have hst := (stamped_iff es clock).1 F.stamped
    rw [hj] at hrun
    have hent := run_entry_at (P := P) _ r b since seen es clock e hset.1 hb' hem hst.2.1
    rw [hj] at hent
    refine .inr ⟨j, e.val, _, _, hwj, by rw [hl1 e hem j hj, hes]; rfl, (hf j e.val).2 ⟨e, hem, hj, rfl⟩, hrun,
      ⟨es, clock, since, seen.push e.born, clock, hb', F, hs, hf, hset.1, hold, rfl, fun x hx m hm => ?_, fun m hm => hl2 m ?_, hsk, hsk⟩, left_shrinks es seen e he, ?_, ?_, hent⟩
    · rw [contains_push]
      dsimp only
      by_cases hmj : m = j
      · subst hmj
        obtain rfl := fit_once F hx hem (hm.trans hj.symm)
        simp
      · have hbe : (x.born == e.born) = false := by
          rw [beq_eq_false_iff_ne]
          intro hbe
          obtain rfl := born_inj hst.2.1 hx hem hbe
          rw [hj] at hm
          injection hm with _ hm
          exact hmj hm.symm
        rw [if_neg hmj, hl1 x hx m hm, hbe, Bool.or_false]
    · dsimp only at hm
      split at hm
      · cases hm
      · exact hm
    · refine Fr.grown (row := some r) ?_
      rcases hal with rfl | rfl <;> exact ⟨rfl, rfl, rfl, by simp [setBlock], fun i _ hi => hset.2 i (fun e1 => hi (by rw [e1]))⟩
    · rcases hal with rfl | rfl <;> simp [setBlock]
theorem leftOf_size (a : Array MapEntry) (seen : Array Nat) : (leftOf a seen).size = ((a.toList.map (·.born)).filter fun e => !seen.contains e).length := by
  unfold leftOf
  rw [← Array.length_toList, Array.toList_filter, List.filter_map, List.length_map]
  rfl
/-- 'm[j] = v' in the round, at a key that is there -/
theorem Mr.store (h : Mr P k q w b r n f left cnt) (hk : P.underlying k = some (.int q)) {t e : TypeId} (ht : P.underlying t = some (.map k e)) (hn : n < maxLen) {j : Int} (hj : (Lit.int q j).wf = true) (hthere : (f j).isSome = true) (v : Value) :
    ∃ w', (Instr.mapUpdate t (.map (some b)) (.int q j) v).run P w = .ok () w' ∧ Mr P k q w' b r n (fun m => if m = j then some v else f m) left cnt ∧ Fr [b] w w' ∧ w'.heap.size = w.heap.size := by
  have hne := h.ne
  obtain ⟨es, clock, since, seen, c0, hb, F, hs, hf, hr, hold, hc, hl1, hl2, hsc, hsk⟩ := h
  obtain ⟨v0, hv0⟩ := Option.isSome_iff_exists.1 hthere
  obtain ⟨x0, hx0, hxk0, _⟩ := (hf j v0).1 hv0
  rcases store_core hk ht hb F (Nat.lt_of_le_of_lt hs hn) hj v with ⟨hno, _⟩ | ⟨i, e0, es', hi, h3, hl, hrun, F'⟩
  · exact absurd hxk0 (hno x0 hx0)
  · have he0 : e0 ∈ es.toList := List.mem_of_getElem? (by simpa using hi : es.toList[i]? = some e0)
    have hmem := mem_set F hi h3 v
    rw [← hl] at hmem
    have hborn : es'.toList.map (·.born) = es.toList.map (·.born) := by
      rw [hl, List.map_set]
      refine List.ext_getElem? fun m => ?_
      rw [List.getElem?_set]
      split
      · rename_i hm
        subst hm
        have : es.toList[i]? = some e0 := by simpa using hi
        simp only [List.length_map, List.getElem?_map, this, (List.getElem?_eq_some_iff.1 this).1, if_true, Option.map_some]
      · rfl
    refine ⟨_, hrun, ⟨_, _, since, seen, c0, heap_setBlock_same hb _, F', ?_, ?_, (heap_setBlock_other hb _ hne).trans hr, ?_, ?_, ?_, ?_, hsc, hsk⟩, Fr.grown (grown_set hb _), by simp [setBlock]⟩
    · have : es'.toList.length = es.toList.length := by rw [hl]; simp
      simp at this
      omega
    · rw [hl]; exact put_set F hf hi h3 v
    · intro x hx
      rcases (hmem x).1 hx with rfl | ⟨hx', _⟩
      · exact hold e0 he0
      · exact hold x hx'
    · rw [leftOf_size, hborn, ← leftOf_size]; exact hc
    · intro x hx m hm
      rcases (hmem x).1 hx with rfl | ⟨hx', _⟩
      · simp at hm; subst hm; exact hl1 e0 he0 j h3
      · exact hl1 x hx' m hm
    · intro m hm
      show (if m = j then some v else f m).isSome = true
      split
      · rfl
      · exact hl2 m hm
end
/-! ### at the operation -/
section
variable {P : Program} {k : TypeId} {q : IntKind} {w : World} {b r n cnt : Nat} {f : Int → Option Value} {left : Int → Bool} {ops : Array Oper} {rest : List Oper} {o : Oper} {a : Act} {Q : Exit → Act → World → Prop}
theorem wpList_mlook (hg : o.guard = none) (m x : Operand) (t : TypeId) (c : Bool) (hop : o.op = Op.lookup t m x c) (h : Mp P k q w b n f) (hk : P.underlying k = some (.int q)) (e : TypeId) (ht : P.underlying t = some (.map k e)) (z : Value) (hz : (zeroValue e).run P w = .ok z w)
    (j : Int) (hm : a.eval m = .map (some b)) (hx : a.eval x = .int q j) (hj : (Lit.int q j).wf = true) (v : Value) (hv : (if c then .tuple #[(f j).getD z, .bool (f j).isSome] else (f j).getD z) = v)
    (hK : wpList P ops Q rest (a.put o.dst v) w) : wpList P ops Q (o :: rest) a w := by
  refine wpList_plain hg fun K' hK' => ?_
  have hrun := h.look hk ht hz c hj
  rw [hv] at hrun
  unfold Oper.wp
  simp [execOp, hop, hm, hx, hrun, Result.andThen]
  exact hK' _ _ hK
theorem wpList_mstore (hg : o.guard = none) (m x y : Operand) (t : TypeId) (hop : o.op = Op.mapUpdate t m x y) (h : Mp P k q w b n f) (hk : P.underlying k = some (.int q)) (e : TypeId) (ht : P.underlying t = some (.map k e)) (hn : n < maxLen)
    (j : Int) (v : Value) (hm : a.eval m = .map (some b)) (hx : a.eval x = .int q j) (hy : a.eval y = v) (hj : (Lit.int q j).wf = true)
    (hK : ∀ w', Mp P k q w' b (n + 1) (fun i => if i = j then some v else f i) → Fr [b] w w' → w'.heap.size = w.heap.size → wpList P ops Q rest (a.put o.dst undef) w') : wpList P ops Q (o :: rest) a w := by
  refine wpList_plain hg fun K' hK' => ?_
  obtain ⟨w', hrun, r1, r2, r3⟩ := h.store hk ht hn hj v
  unfold Oper.wp
  simp [execOp, hop, hm, hx, hy, hrun, Result.andThen]
  exact hK' _ _ (hK w' r1 r2 r3)
theorem wpList_mstore_in (hg : o.guard = none) (m x y : Operand) (t : TypeId) (hop : o.op = Op.mapUpdate t m x y) (h : Mr P k q w b r n f left cnt) (hk : P.underlying k = some (.int q)) (e : TypeId) (ht : P.underlying t = some (.map k e)) (hn : n < maxLen)
    (j : Int) (v : Value) (hm : a.eval m = .map (some b)) (hx : a.eval x = .int q j) (hy : a.eval y = v) (hj : (Lit.int q j).wf = true) (hthere : (f j).isSome = true)
    (hK : ∀ w', Mr P k q w' b r n (fun i => if i = j then some v else f i) left cnt → Fr [b] w w' → w'.heap.size = w.heap.size → wpList P ops Q rest (a.put o.dst undef) w') : wpList P ops Q (o :: rest) a w := by
  refine wpList_plain hg fun K' hK' => ?_
  obtain ⟨w', hrun, r1, r2, r3⟩ := h.store hk ht hn hj hthere v
  unfold Oper.wp
  simp [execOp, hop, hm, hx, hy, hrun, Result.andThen]
  exact hK' _ _ (hK w' r1 r2 r3)
theorem wpList_mrange (hg : o.guard = none) (m : Operand) (t : TypeId) (hop : o.op = Op.range t m) (h : Mp P k q w b n f) (hk : P.underlying k = some (.int q)) (e : TypeId) (ht : P.underlying t = some (.map k e)) (hm : a.eval m = .map (some b))
    (hK : ∀ w' cnt, Mr P k q w' b w.heap.size n f (fun j => (f j).isSome) cnt → Fr [] w w' → w'.heap.size = w.heap.size + 1 → wpList P ops Q rest (a.put o.dst (.pointer (some ⟨w.heap.size, 0, none⟩))) w') : wpList P ops Q (o :: rest) a w := by
  refine wpList_plain hg fun K' hK' => ?_
  obtain ⟨w', cnt, hrun, r1, r2, r3⟩ := h.range hk ht
  unfold Oper.wp
  simp [execOp, hop, hm, hrun, Result.andThen]
  exact hK' _ _ (hK w' cnt r1 r2 r3)
theorem wpList_mnext {G : Type} (mk : G → Value) (g : Int → Option G) (hg : o.guard = none) (it : Operand) (hop : o.op = Op.next it false) (h : Mr P k q w b r n f left cnt) (hf : ∀ j, f j = (g j).map mk) (hk : P.underlying k = some (.int q)) (hit : a.eval it = .pointer (some ⟨r, 0, none⟩))
    (hDone : (∀ j, left j = false) → wpList P ops Q rest (a.put o.dst (.tuple #[.bool false])) w)
    (hMore : ∀ (j : Int) (c : G) (w' : World) (cnt' : Nat), (Lit.int q j).wf = true → left j = true → g j = some c → Mr P k q w' b r n f (fun m => if m = j then false else left m) cnt' → cnt' < cnt → Fr [r] w w' → w'.heap.size = w.heap.size →
      (Instr.entry (.pointer (some ⟨r, 0, none⟩))).run P w' = .ok (.tuple #[.int q j, mk c]) w' → wpList P ops Q rest (a.put o.dst (.tuple #[.bool true, .int q j, mk c])) w') : wpList P ops Q (o :: rest) a w := by
  refine wpList_plain hg fun K' hK' => ?_
  unfold Oper.wp
  rcases h.next hk o.type with ⟨h0, hl, hrun⟩ | ⟨j, v, w', cnt', hwj, hlj, hv, hrun, hrg, hlt, hgr, hsz, hen⟩
  · simp [execOp, hop, hit, hrun, Result.andThen]
    exact hK' _ _ (hDone hl)
  · rw [hf, Option.map_eq_some_iff] at hv
    obtain ⟨c, hc, rfl⟩ := hv
    simp [execOp, hop, hit, hrun, Result.andThen]
    exact hK' _ _ (hMore j c w' cnt' hwj hlj hc hrg hlt hgr hsz hen)
theorem wpList_mdelete (hg : o.guard = none) (m x : Operand) (t : TypeId) (hop : o.op = Op.call { callee := Callee.builtin Builtin.delete, args := #[m, x], argTypes := #[t, k] }) (h : Mp P k q w b n f) (hk : P.underlying k = some (.int q)) (e : TypeId) (ht : P.underlying t = some (.map k e))
    (j : Int) (hm : a.eval m = .map (some b)) (hx : a.eval x = .int q j) (hj : (Lit.int q j).wf = true)
    (hK : ∀ w', Mp P k q w' b n (fun i => if i = j then none else f i) → Fr [b] w w' → w'.heap.size = w.heap.size → wpList P ops Q rest (a.put o.dst (.tuple #[])) w') : wpList P ops Q (o :: rest) a w := by
  refine wpList_plain hg fun K' hK' => ?_
  obtain ⟨w', hrun, r1, r2, r3⟩ := h.drop hk ht hj o.type
  unfold Oper.wp
  simp [execOp, hop, resolve, invoke, builtin, hm, hx, hrun, Result.andThen]
  exact hK' _ _ (hK w' r1 r2 r3)
end
/-! ### the same, of one operation -/
section
variable {P : Program} {k : TypeId} {q : IntKind} {w : World} {b r n cnt : Nat} {f : Int → Option Value} {left : Int → Bool} {o : Oper} {a : Act} {Q : Exit → Act → World → Prop} {K : Act → World → Prop}
theorem wp_mstore (m x y : Operand) (t : TypeId) (hop : o.op = Op.mapUpdate t m x y) (h : Mp P k q w b n f) (hk : P.underlying k = some (.int q)) (e : TypeId) (ht : P.underlying t = some (.map k e)) (hn : n < maxLen)
    (j : Int) (v : Value) (hm : a.eval m = .map (some b)) (hx : a.eval x = .int q j) (hy : a.eval y = v) (hj : (Lit.int q j).wf = true)
    (hK : ∀ w', Mp P k q w' b (n + 1) (fun i => if i = j then some v else f i) → Fr [b] w w' → w'.heap.size = w.heap.size → K (a.put o.dst undef) w') : o.wp P a w K Q := by
  obtain ⟨w', hrun, r1, r2, r3⟩ := h.store hk ht hn hj v
  unfold Oper.wp
  simp [execOp, hop, hm, hx, hy, hrun, Result.andThen]
  exact hK w' r1 r2 r3
theorem wp_mstore_in (m x y : Operand) (t : TypeId) (hop : o.op = Op.mapUpdate t m x y) (h : Mr P k q w b r n f left cnt) (hk : P.underlying k = some (.int q)) (e : TypeId) (ht : P.underlying t = some (.map k e)) (hn : n < maxLen)
    (j : Int) (v : Value) (hm : a.eval m = .map (some b)) (hx : a.eval x = .int q j) (hy : a.eval y = v) (hj : (Lit.int q j).wf = true) (hthere : (f j).isSome = true)
    (hK : ∀ w', Mr P k q w' b r n (fun i => if i = j then some v else f i) left cnt → Fr [b] w w' → w'.heap.size = w.heap.size → K (a.put o.dst undef) w') : o.wp P a w K Q := by
  obtain ⟨w', hrun, r1, r2, r3⟩ := h.store hk ht hn hj hthere v
  unfold Oper.wp
  simp [execOp, hop, hm, hx, hy, hrun, Result.andThen]
  exact hK w' r1 r2 r3
theorem wp_mdelete (m x : Operand) (t : TypeId) (hop : o.op = Op.call { callee := Callee.builtin Builtin.delete, args := #[m, x], argTypes := #[t, k] }) (h : Mp P k q w b n f) (hk : P.underlying k = some (.int q)) (e : TypeId) (ht : P.underlying t = some (.map k e))
    (j : Int) (hm : a.eval m = .map (some b)) (hx : a.eval x = .int q j) (hj : (Lit.int q j).wf = true)
    (hK : ∀ w', Mp P k q w' b n (fun i => if i = j then none else f i) → Fr [b] w w' → w'.heap.size = w.heap.size → K (a.put o.dst (.tuple #[])) w') : o.wp P a w K Q := by
  obtain ⟨w', hrun, r1, r2, r3⟩ := h.drop hk ht hj o.type
  unfold Oper.wp
  simp [execOp, hop, resolve, invoke, builtin, hm, hx, hrun, Result.andThen]
  exact hK w' r1 r2 r3
theorem yields_mlook {ops : Array Oper} {S : World → Prop} (m x : Operand) (t : TypeId) (c : Bool) (hop : o.op = Op.lookup t m x c) (h : ∀ W, S W → Mp P k q W b n f) (hk : P.underlying k = some (.int q)) (e : TypeId) (ht : P.underlying t = some (.map k e)) (z : Value) (hz : ∀ W : World, (zeroValue e).run P W = .ok z W)
    (j : Int) (hm : a.eval m = .map (some b)) (hx : a.eval x = .int q j) (hj : (Lit.int q j).wf = true) (v : Value) (hv : (if c then .tuple #[(f j).getD z, .bool (f j).isSome] else (f j).getD z) = v) (hw : Region.wanted o (yielded ops a.tmps) = true) : YieldsIf P ops S o v a :=
  Or.inl ⟨hw, fun W hS => by
    have hrun := (h W hS).look hk ht (hz W) c hj
    rw [hv] at hrun
    unfold execOp
    simp only [hop, hm, hx, Sem.run_bind, hrun, Result.andThen_ok, Sem.run_pure]⟩
end
end Go.Proofs.YtdbpmojblgmhdaaDoor
