/-
  A map keyed by regions: which keys it has, as a list; look-up, store, delete, a range over it. No condition.
-/

import Derived.Test.YtdbpmojblgmhdaaDoorBase
import Derived.Test.YtdbpmojblgmhdaaDoorMaps
import Derived.Test.YtdbpmojblgmhdaaDoorRange
import Derived.DeepKeys4
import Derived.RangeFuncKeeps
import Derived.RangeFuncStops
set_option linter.unusedVariables false
namespace Go.Proofs.YtdbpmojblgmhdaaDoor
open Go.ChangeShapes Go.WideShapes Go.ChangeAt Go.RowKit
open Go.ChangeMaps Go.MapKept Go.WideMaps
open Go.Maps (Keyed)
open Go.WideElems (Fit rd rg pl rd_key rd_val rg_of other_key)
/-- A region as a key. -/
def rkey (r : Nat × Nat) : Value := .agg #[.int .u32 r.1, .int .u32 r.2]
def Ok32 (r : Nat × Nat) : Prop := r.1 < 4294967296 ∧ r.2 < 4294967296
theorem rkey_inj {a b : Nat × Nat} (h : rkey a = rkey b) : a = b := by
  unfold rkey at h
  simp at h
  exact Prod.ext (by omega) (by omega)
theorem rgLaw : KeyLaw Tryd.prog 31 := deep_law_laid (by kernel_rfl) (m := 3) (by omega) (of_decide_eq_true (by kernel_rfl)) (by kernel_rfl) (by rw [Tryd.underlying31])
theorem rgKeyed : Keyed Tryd.prog 31 := Keyed.of_law rgLaw
theorem rg_type : Tryd.prog.keyType 31 = true := by kernel_rfl
theorem rg_formed (r : Nat × Nat) : (rkey r).formed Tryd.prog 31 = true := by
  have hc : Tryd.prog.cellsOf 31 = 2 := by kernel_rfl
  simp [rkey, Value.formed, Tryd.underlying31, hc]
theorem rg_lits (a s : Nat) (ha : a < 4294967296) (hs : s < 4294967296) (D : Nat) : Tryd.prog.keyLits (D + 2) 31 [.int .u32 a, .int .u32 s] = some [.int .u32 a, .int .u32 s] := by
  have m1 : IntKind.u32.min = 0 := rfl
  have m2 : IntKind.u32.max = 4294967295 := rfl
  have h1 : (Lit.int .u32 (a : Int)).wf = true := by simp [Lit.wf, m1, m2]; omega
  have h2 : (Lit.int .u32 (s : Int)).wf = true := by simp [Lit.wf, m1, m2]; omega
  have hc : Tryd.prog.cellsOf 31 = 2 := by kernel_rfl
  have hc1 : Tryd.prog.cellsOf 29 = 1 := by kernel_rfl
  simp [Program.keyLits, Tryd.underlying31, Tryd.underlying29, hc, hc1, h1, h2]
theorem rg_key (r : Nat × Nat) (h : Ok32 r) : ∃ l, keyOf Tryd.prog 31 (rkey r) = some l := by
  obtain ⟨m, hm⟩ : ∃ m, Tryd.prog.types.size = m + 1 := ⟨Tryd.prog.types.size - 1, by have : 0 < Tryd.prog.types.size := of_decide_eq_true (by kernel_rfl); omega⟩
  refine ⟨.string (keyBytes [.int .u32 r.1, .int .u32 r.2]), ?_⟩
  unfold keyOf
  rw [Tryd.underlying31]
  simp only [rg_type, rg_formed r, Bool.and_self, if_true, hm]
  have := rg_lits r.1 r.2 h.1 h.2 m
  have e : (rkey r).cells.toList = [.int .u32 r.1, .int .u32 r.2] := rfl
  rw [e, this]
  rfl
/-- Block b is a map whose keys are just those of L. -/
def Ms (w : World) (b : Nat) (L : List (Nat × Nat)) : Prop :=
  ∃ es clock, w.heap[b]? = some (.map es clock) ∧ Fit Tryd.prog 31 anyElem es clock ∧ (es.toList.map (·.key)).Perm (L.map rkey) ∧ ∀ x ∈ es.toList, x.val = .agg #[]
/-- A range over it, under way: those of p have come. -/
def Mw (w : World) (b r : Nat) (L p : List (Nat × Nat)) (cnt : Nat) : Prop :=
  ∃ es clock since seen c0, w.heap[b]? = some (.map es clock) ∧ Fit Tryd.prog 31 anyElem es clock ∧ (es.toList.map (·.key)).Perm (L.map rkey) ∧ (∀ x ∈ es.toList, x.val = .agg #[]) ∧
    w.heap[r]? = some (.mapIter (some b) since seen c0) ∧ (∀ x ∈ es.toList, x.born < since) ∧ (leftOf es seen).size = cnt ∧
    (∀ x ∈ es.toList, ∀ j, x.key = rkey j → (seen.contains x.born = true ↔ j ∈ p)) ∧ p.Nodup ∧ (∀ j ∈ p, j ∈ L) ∧ since ≤ c0 ∧ since ≤ clock
section
variable {w w' : World} {b r cnt : Nat} {L p : List (Nat × Nat)}
theorem Ms.lt (h : Ms w b L) : b < w.heap.size := by
  obtain ⟨es, clock, hb, _⟩ := h
  exact (Array.getElem?_eq_some_iff.1 hb).1
theorem Ms.fr {S : List Nat} (h : Ms w b L) (g : Fr S w w') (hb : b ∉ S) : Ms w' b L := by
  have hl := h.lt
  obtain ⟨es, clock, h1, r⟩ := h
  exact ⟨es, clock, (g.keep b hl hb).trans h1, r⟩
theorem Ms.fr0 (h : Ms w b L) (g : Fr [] w w') : Ms w' b L := h.fr g (by simp)
theorem Ms.hp (h : Ms w b L) (hv : w'.heap = w.heap) : Ms w' b L := by
  obtain ⟨es, clock, h1, r⟩ := h
  exact ⟨es, clock, by rw [hv]; exact h1, r⟩
theorem Ms.perm {L' : List (Nat × Nat)} (h : Ms w b L) (hp : L.Perm L') : Ms w b L' := by
  obtain ⟨es, clock, h1, h2, h3, h4⟩ := h
  exact ⟨es, clock, h1, h2, h3.trans (hp.map _), h4⟩
theorem Ms.ne {g : Nat} {t : TypeId} {cs : Array Value} (h : Ms w b L) (hg : At w g t cs) : b ≠ g := by
  rintro rfl
  obtain ⟨es, clock, h1, r⟩ := h
  unfold At at hg
  rw [h1] at hg
  cases hg
theorem Ms.made (w : World) : Ms (w.alloc (.map #[] 0)) w.heap.size [] :=
  ⟨#[], 0, heap_alloc_new w _, ⟨by simp, stamped_empty 0, by simp⟩, by simp, by simp⟩
theorem mem_keys {es : Array MapEntry} (hp : (es.toList.map (·.key)).Perm (L.map rkey)) (j : Nat × Nat) : j ∈ L ↔ ∃ x ∈ es.toList, x.key = rkey j := by
  have := hp.mem_iff (a := rkey j)
  rw [List.mem_map, List.mem_map] at this
  rw [this]
  exact ⟨fun h => ⟨j, h, rfl⟩, fun ⟨y, hy, e⟩ => by rw [← rkey_inj e]; exact hy⟩
theorem key_of {es : Array MapEntry} (hp : (es.toList.map (·.key)).Perm (L.map rkey)) {x : MapEntry} (hx : x ∈ es.toList) : ∃ j ∈ L, x.key = rkey j := by
  have := hp.mem_iff (a := x.key)
  obtain ⟨j, hj, e⟩ := List.mem_map.1 (this.1 (List.mem_map_of_mem hx))
  exact ⟨j, hj, e.symm⟩
theorem ent_once {es : Array MapEntry} {clock : Nat} (F : Fit Tryd.prog 31 anyElem es clock) {x y : MapEntry} (hx : x ∈ es.toList) (hy : y ∈ es.toList) (h : x.key = y.key) : x = y :=
  entry_eq_of_key ((stamped_iff es clock).1 F.stamped).2.2 hx hy h
theorem keys_nodup {es : Array MapEntry} {clock : Nat} (F : Fit Tryd.prog 31 anyElem es clock) (hp : (es.toList.map (·.key)).Perm (L.map rkey)) : L.Nodup := by
  have h := ((stamped_iff es clock).1 F.stamped).2.2
  have h2 : (es.toList.map (·.key)).Nodup := by
    rw [List.nodup_iff_pairwise_ne, List.pairwise_map]
    exact h
  have h3 := hp.nodup_iff.1 h2
  rw [List.nodup_iff_pairwise_ne, List.pairwise_map] at h3
  exact h3.imp fun h e => h (by rw [e])
theorem Ms.nodup (h : Ms w b L) : L.Nodup := by
  obtain ⟨es, clock, _, F, hp, _⟩ := h
  exact keys_nodup F hp
/-- 'v, ok := m[j]' -/
theorem Ms.look (h : Ms w b L) {t e : TypeId} (ht : Tryd.prog.underlying t = some (.map 31 e)) (hz : (zeroValue e).run Tryd.prog w = .ok (.agg #[]) w) {j : Nat × Nat} (hj : Ok32 j) :
    (Instr.lookup t (.map (some b)) (rkey j) true).run Tryd.prog w = .ok (.tuple #[.agg #[], .bool (decide (j ∈ L))]) w := by
  obtain ⟨es, clock, hb, F, hp, hu⟩ := h
  obtain ⟨l, hl⟩ := rg_key j hj
  rcases Maps.fit_look true rgKeyed ht hz hb F hl with ⟨hrun, hno, _⟩ | ⟨e0, y, he, hkey, hrun, _⟩
  · have hn : j ∉ L := fun hm => by
      obtain ⟨x, hx, hxk⟩ := (mem_keys hp j).1 hm
      exact hno x hx hxk
    rw [hrun]; simp [hn]
  · have hn : j ∈ L := (mem_keys hp j).2 ⟨e0, he, hkey⟩
    rw [hrun, hu e0 he]; simp [hn]
/-- 'm[j] = v', a new key -/
theorem Ms.store (h : Ms w b L) {t e : TypeId} (ht : Tryd.prog.underlying t = some (.map 31 e)) (hn : L.length < maxLen) {j : Nat × Nat} (hj : Ok32 j) (hno : j ∉ L) :
    ∃ w', (Instr.mapUpdate t (.map (some b)) (rkey j) (.agg #[])).run Tryd.prog w = .ok () w' ∧ Ms w' b (j :: L) ∧ Fr [b] w w' ∧ w'.heap.size = w.heap.size := by
  obtain ⟨es, clock, hb, F, hp, hu⟩ := h
  obtain ⟨l, hl⟩ := rg_key j hj
  have hsz : es.size = L.length := by have := hp.length_eq; simpa using this
  rcases rgKeyed.find w hl es.toList F.keys with ⟨h1, h2⟩ | ⟨i, e0, h1, h2, h3⟩
  · refine ⟨setBlock w b (.map (es.push ⟨rkey j, .agg #[], clock⟩) (clock + 1)), ?_, ⟨_, _, heap_setBlock_same hb _, ⟨by simp; omega, stamped_push F.stamped h2, ?_⟩, ?_, ?_⟩, Fr.grown (grown_set hb _), by simp [setBlock]⟩
    · simp [Instr.mapUpdate, run_underlying ht, MapKept.run_getObj_map hb, rgKeyed.check w false hl, h1, MapKept.run_setObj_map _ hb, Result.andThen, setBlock]
    · intro x hx
      simp only [Array.toList_push, List.mem_append, List.mem_singleton] at hx
      rcases hx with hx | rfl
      · exact F.reads x hx
      · exact ⟨_, Go.WideElems.rd_mk hl rfl⟩
    · simp only [Array.toList_push, List.map_append, List.map_cons, List.map_nil]
      exact List.perm_append_comm.trans (hp.cons _)
    · intro x hx
      simp only [Array.toList_push, List.mem_append, List.mem_singleton] at hx
      rcases hx with hx | rfl
      · exact hu x hx
      · rfl
  · exact absurd ((mem_keys hp j).2 ⟨e0, List.mem_of_getElem? h2, h3⟩) hno
/-- 'delete(m, j)' -/
theorem Ms.drop (h : Ms w b L) {t e : TypeId} (ht : Tryd.prog.underlying t = some (.map 31 e)) {j : Nat × Nat} (hj : Ok32 j) (ty : TypeId) :
    ∃ w', (Builtin.delete_ #[t, 31] ty #[.map (some b), rkey j]).run Tryd.prog w = .ok (.tuple #[]) w' ∧ Ms w' b (L.filter fun x => decide (x ≠ j)) ∧ Fr [b] w w' ∧ w'.heap.size = w.heap.size := by
  obtain ⟨es, clock, hb, F, hp, hu⟩ := h
  obtain ⟨l, hl⟩ := rg_key j hj
  obtain ⟨es', hrun, F', hle, _, hsub, hwho⟩ := fit_drop_who (ty := ty) rgKeyed ht hb F hl
  refine ⟨_, hrun, ⟨_, _, heap_setBlock_same hb _, F', ?_, fun x hx => hu x ((hwho x).1 hx).1⟩, Fr.grown (grown_set hb _), by simp [setBlock]⟩
  have n1 := keys_nodup F hp
  have h' := ((stamped_iff es' clock).1 F'.stamped).2.2
  have k1 : (es'.toList.map (·.key)).Nodup := by
    rw [List.nodup_iff_pairwise_ne, List.pairwise_map]
    exact h'
  have k2 : ((L.filter fun x => decide (x ≠ j)).map rkey).Nodup := by
    rw [List.nodup_iff_pairwise_ne, List.pairwise_map]
    have : (L.filter fun x => decide (x ≠ j)).Nodup := n1.filter _
    rw [List.nodup_iff_pairwise_ne] at this
    exact this.imp fun h e => h (rkey_inj e)
  refine (List.perm_ext_iff_of_nodup k1 k2).2 fun a => ?_
  rw [List.mem_map, List.mem_map]
  constructor
  · rintro ⟨x, hx, rfl⟩
    obtain ⟨hx1, hx2⟩ := (hwho x).1 hx
    obtain ⟨q, hq, e⟩ := key_of hp hx1
    exact ⟨q, List.mem_filter.2 ⟨hq, by simpa using fun e2 => hx2 (by rw [e, e2])⟩, e.symm⟩
  · rintro ⟨q, hq, rfl⟩
    obtain ⟨hq1, hq2⟩ := List.mem_filter.1 hq
    obtain ⟨x, hx, e⟩ := (mem_keys hp q).1 hq1
    exact ⟨x, (hwho x).2 ⟨hx, fun e2 => by simp at hq2; exact hq2 (rkey_inj (e.symm.trans e2))⟩, e⟩
/-! ### a range over it -/
theorem Mw.ms (h : Mw w b r L p cnt) : Ms w b L := by
  obtain ⟨es, clock, _, _, _, hb, F, hp, hu, _⟩ := h
  exact ⟨es, clock, hb, F, hp, hu⟩
theorem Mw.nodup (h : Mw w b r L p cnt) : p.Nodup ∧ ∀ j ∈ p, j ∈ L := by
  obtain ⟨_, _, _, _, _, _, _, _, _, _, _, _, _, h1, h2, _⟩ := h
  exact ⟨h1, h2⟩
theorem Mw.of_walks (h : Mw w b r L p cnt) (g : KeepsWalks w w') : Mw w' b r L p cnt := by
  obtain ⟨es, clock, since, seen, c0, h1, h2, h3, hu, h4, rest⟩ := h
  exact ⟨es, clock, since, seen, c0, g.same b _ h1 rfl, h2, h3, hu, g.same r _ h4 rfl, rest⟩
theorem Ms.range (h : Ms w b L) {t e : TypeId} (ht : Tryd.prog.underlying t = some (.map 31 e)) :
    ∃ w' cnt, (Instr.range t (.map (some b))).run Tryd.prog w = .ok (.pointer (some ⟨w.heap.size, 0, none⟩)) w' ∧ Mw w' b w.heap.size L [] cnt ∧ w.grownBy w' none ∧ w'.heap.size = w.heap.size + 1 := by
  have hlt := h.lt
  obtain ⟨es, clock, hb, F, hp, hu⟩ := h
  exact ⟨_, _, run_range_map w t 31 e b es clock ht hb, ⟨es, clock, clock, #[], clock, ((MapKept.heap_alloc w _).2 b hlt).trans hb, F, hp, hu, (MapKept.heap_alloc w _).1, F.stamped.1, rfl, fun x _ j _ => by simp, List.nodup_nil, by simp, Nat.le_refl _, Nat.le_refl _⟩, World.grownBy_alloc w _ none, by simp⟩
theorem Mw.left_eq (h : Mw w b r L p cnt) : w.rangeLeft b r = cnt := by
  obtain ⟨es, clock, since, seen, c0, hb, _, _, _, hr, _, hc, _⟩ := h
  simp only [World.rangeLeft, hb, hr]
  exact hc
theorem Mw.walk (h : Mw w b r L p cnt) : ∃ o : Obj, w.heap[r]? = some o ∧ o.isWalk = true := by
  obtain ⟨_, _, since, seen, c0, _, _, _, _, hr, _⟩ := h
  exact ⟨_, hr, rfl⟩
theorem Mw.next (h : Mw w b r L p cnt) (ty : TypeId) :
    (p.Perm L ∧ (Instr.next (.pointer (some ⟨r, 0, none⟩)) false ty).run Tryd.prog w = .ok (.tuple #[.bool false]) w) ∨
    ∃ j v w' cnt', j ∈ L ∧ j ∉ p ∧ (Instr.next (.pointer (some ⟨r, 0, none⟩)) false ty).run Tryd.prog w = .ok (.tuple #[.bool true, rkey j, v]) w' ∧
      Mw w' b r L (p ++ [j]) cnt' ∧ cnt' < cnt ∧ w.grownBy w' (some r) ∧ w'.heap.size = w.heap.size ∧ (Instr.entry (.pointer (some ⟨r, 0, none⟩))).run Tryd.prog w' = .ok (.tuple #[rkey j, v]) w' := by
  obtain ⟨es, clock, since, seen, c0, hb, F, hp, hu, hr, hold, rfl, hl, hnd, hin, hsc, hsk⟩ := h
  have hne : r ≠ b := by
    rintro rfl
    rw [hb] at hr
    cases hr
  rcases run_next_at (P := Tryd.prog) w ty r b since c0 seen es clock hr hb hold hsc with ⟨h0, hrun⟩ | ⟨e, he, w1, hal, hrun⟩
  · refine .inl ⟨(List.perm_ext_iff_of_nodup hnd (keys_nodup F hp)).2 fun j => ⟨hin j, fun hj => ?_⟩, hrun⟩
    obtain ⟨x, hx, hxk⟩ := (mem_keys hp j).1 hj
    exact (hl x hx j hxk).1 (by have := all_seen es seen h0 x hx; simpa using this)
  · obtain ⟨hem, hes⟩ := mem_left he
    obtain ⟨j, hjL, hj⟩ := key_of hp hem
    have hr1 : w1.heap[r]? = some (.mapIter (some b) since seen c0) := by rcases hal with rfl | rfl <;> exact hr
    have hb1 : w1.heap[b]? = some (.map es clock) := by rcases hal with rfl | rfl <;> exact hb
    have hset := heap_set (o' := .mapIter (some b) since (seen.push e.born) clock) hr1
    have hb' : (setBlock w1 r (.mapIter (some b) since (seen.push e.born) clock)).heap[b]? = some (.map es clock) := (hset.2 b (fun e1 => hne e1.symm)).trans hb1
    have hst := (stamped_iff es clock).1 F.stamped
    rw [hj] at hrun
    have hent := run_entry_at (P := Tryd.prog) _ r b since seen es clock e hset.1 hb' hem hst.2.1
    rw [hj] at hent
    have hjp : j ∉ p := fun hm => by
      have := (hl e hem j hj).2 hm
      rw [hes] at this
      cases this
    refine .inr ⟨j, e.val, _, _, hjL, hjp, hrun,
      ⟨es, clock, since, seen.push e.born, clock, hb', F, hp, hu, hset.1, hold, rfl, fun x hx m hm => ?_, ?_, ?_, hsk, hsk⟩, left_shrinks es seen e he, ?_, ?_, hent⟩
    · rw [contains_push]
      by_cases hmj : m = j
      · subst hmj
        obtain rfl := ent_once F hx hem (hm.trans hj.symm)
        simp
      · have hbe : (x.born == e.born) = false := by
          rw [beq_eq_false_iff_ne]
          intro hbe
          obtain rfl := born_inj hst.2.1 hx hem hbe
          exact hmj (rkey_inj (hm.symm.trans hj))
        rw [hbe, Bool.or_false, hl x hx m hm]
        simp [hmj]
    · rw [List.nodup_append]
      exact ⟨hnd, by simp, fun a ha c hc => by simp at hc; subst hc; exact fun e1 => hjp (e1 ▸ ha)⟩
    · intro m hm
      rcases List.mem_append.1 hm with hm | hm
      · exact hin m hm
      · simp at hm; subst hm; exact hjL
    · rcases hal with rfl | rfl <;> exact ⟨rfl, rfl, rfl, by simp [setBlock], fun i _ hi => hset.2 i (fun e1 => hi (by rw [e1]))⟩
    · rcases hal with rfl | rfl <;> simp [setBlock]
end
/-! ### at the operation -/
section
variable {w : World} {b r cnt : Nat} {L p : List (Nat × Nat)} {ops : Array Oper} {rest : List Oper} {o : Oper} {a : Act} {Q : Exit → Act → World → Prop}
theorem wpList_rlook (hg : o.guard = none) (m x : Operand) (t : TypeId) (hop : o.op = Op.lookup t m x true) (h : Ms w b L) (e : TypeId) (ht : Tryd.prog.underlying t = some (.map 31 e)) (hz : (zeroValue e).run Tryd.prog w = .ok (.agg #[]) w)
    (j : Nat × Nat) (hm : a.eval m = .map (some b)) (hx : a.eval x = .agg #[.int .u32 j.1, .int .u32 j.2]) (hj : Ok32 j) (B : Bool) (hB : decide (j ∈ L) = B)
    (hK : wpList Tryd.prog ops Q rest (a.put o.dst (.tuple #[.agg #[], .bool B])) w) : wpList Tryd.prog ops Q (o :: rest) a w := by
  refine wpList_plain hg fun K' hK' => ?_
  have hrun := h.look ht hz hj
  rw [hB] at hrun
  unfold rkey at hrun
  unfold Oper.wp
  simp [execOp, hop, hm, hx, hrun, Result.andThen]
  exact hK' _ _ hK
theorem wpList_rstore (hg : o.guard = none) (m x y : Operand) (t : TypeId) (hop : o.op = Op.mapUpdate t m x y) (h : Ms w b L) (e : TypeId) (ht : Tryd.prog.underlying t = some (.map 31 e)) (hn : L.length < maxLen)
    (j : Nat × Nat) (hm : a.eval m = .map (some b)) (hx : a.eval x = .agg #[.int .u32 j.1, .int .u32 j.2]) (hj : Ok32 j) (hno : j ∉ L) (hy : a.eval y = .agg #[])
    (hK : ∀ w', Ms w' b (j :: L) → Fr [b] w w' → w'.heap.size = w.heap.size → wpList Tryd.prog ops Q rest (a.put o.dst undef) w') : wpList Tryd.prog ops Q (o :: rest) a w := by
  refine wpList_plain hg fun K' hK' => ?_
  obtain ⟨w', hrun, r1, r2, r3⟩ := h.store ht hn hj hno
  unfold rkey at hrun
  unfold Oper.wp
  simp [execOp, hop, hm, hx, hy, hrun, Result.andThen]
  exact hK' _ _ (hK w' r1 r2 r3)
theorem wpList_rdelete (hg : o.guard = none) (m x : Operand) (t : TypeId) (hop : o.op = Op.call { callee := Callee.builtin Builtin.delete, args := #[m, x], argTypes := #[t, 31] }) (h : Ms w b L) (e : TypeId) (ht : Tryd.prog.underlying t = some (.map 31 e))
    (j : Nat × Nat) (hm : a.eval m = .map (some b)) (hx : a.eval x = .agg #[.int .u32 j.1, .int .u32 j.2]) (hj : Ok32 j)
    (hK : ∀ w', Ms w' b (L.filter fun x => decide (x ≠ j)) → Fr [b] w w' → w'.heap.size = w.heap.size → wpList Tryd.prog ops Q rest (a.put o.dst (.tuple #[])) w') : wpList Tryd.prog ops Q (o :: rest) a w := by
  refine wpList_plain hg fun K' hK' => ?_
  obtain ⟨w', hrun, r1, r2, r3⟩ := h.drop ht hj o.type
  unfold rkey at hrun
  unfold Oper.wp
  simp [execOp, hop, resolve, invoke, builtin, hm, hx, hrun, Result.andThen]
  exact hK' _ _ (hK w' r1 r2 r3)
theorem wp_rstore {K : Act → World → Prop} (m x y : Operand) (t : TypeId) (hop : o.op = Op.mapUpdate t m x y) (h : Ms w b L) (e : TypeId) (ht : Tryd.prog.underlying t = some (.map 31 e)) (hn : L.length < maxLen)
    (j : Nat × Nat) (hm : a.eval m = .map (some b)) (hx : a.eval x = .agg #[.int .u32 j.1, .int .u32 j.2]) (hj : Ok32 j) (hno : j ∉ L) (hy : a.eval y = .agg #[])
    (hK : ∀ w', Ms w' b (j :: L) → Fr [b] w w' → w'.heap.size = w.heap.size → K (a.put o.dst undef) w') : o.wp Tryd.prog a w K Q := by
  obtain ⟨w', hrun, r1, r2, r3⟩ := h.store ht hn hj hno
  unfold rkey at hrun
  unfold Oper.wp
  simp [execOp, hop, hm, hx, hy, hrun, Result.andThen]
  exact hK w' r1 r2 r3
theorem wp_rdelete {K : Act → World → Prop} (m x : Operand) (t : TypeId) (hop : o.op = Op.call { callee := Callee.builtin Builtin.delete, args := #[m, x], argTypes := #[t, 31] }) (h : Ms w b L) (e : TypeId) (ht : Tryd.prog.underlying t = some (.map 31 e))
    (j : Nat × Nat) (hm : a.eval m = .map (some b)) (hx : a.eval x = .agg #[.int .u32 j.1, .int .u32 j.2]) (hj : Ok32 j)
    (hK : ∀ w', Ms w' b (L.filter fun x => decide (x ≠ j)) → Fr [b] w w' → w'.heap.size = w.heap.size → K (a.put o.dst (.tuple #[])) w') : o.wp Tryd.prog a w K Q := by
  obtain ⟨w', hrun, r1, r2, r3⟩ := h.drop ht hj o.type
  unfold rkey at hrun
  unfold Oper.wp
  simp [execOp, hop, resolve, invoke, builtin, hm, hx, hrun, Result.andThen]
  exact hK w' r1 r2 r3
variable {F : Fence} {n : Nat}
theorem wpListIn_rrange (hg : o.guard = none) (m : Operand) (t : TypeId) (hop : o.op = Op.range t m) (h : Ms w b L) (e : TypeId) (ht : Tryd.prog.underlying t = some (.map 31 e)) (hm : a.eval m = .map (some b))
    (hK : ∀ w' cnt, Mw w' b w.heap.size L [] cnt → w.grownBy w' none → w'.heap.size = w.heap.size + 1 → wpListIn F n Tryd.prog ops Q rest (a.put o.dst (.pointer (some ⟨w.heap.size, 0, none⟩))) w') : wpListIn F n Tryd.prog ops Q (o :: rest) a w := by
  refine wpListIn_plain hg fun K' hK' => ?_
  obtain ⟨w', cnt', hrun, r1, r2, r3⟩ := h.range ht
  unfold Oper.wpIn
  refine ⟨?_, ?_⟩
  · simp [Oper.about, hop, Sem.run_pure]
  · rw [Oper.semAt_plain F _ _ (by rw [hop]; intro c hc'; cases hc')]
    simp [execOp, hop, hm, hrun, Result.andThen]
    exact hK' _ _ (hK w' cnt' r1 r2 r3)
theorem wpListIn_rnext (hg : o.guard = none) (it : Operand) (hop : o.op = Op.next it false) (h : Mw w b r L p cnt) (hit : a.eval it = .pointer (some ⟨r, 0, none⟩))
    (hDone : p.Perm L → wpListIn F n Tryd.prog ops Q rest (a.put o.dst (.tuple #[.bool false])) w)
    (hMore : ∀ (j : Nat × Nat) (v : Value) (w' : World) (cnt' : Nat), j ∈ L → j ∉ p → Mw w' b r L (p ++ [j]) cnt' → cnt' < cnt → w.grownBy w' (some r) → w'.heap.size = w.heap.size →
      (Instr.entry (.pointer (some ⟨r, 0, none⟩))).run Tryd.prog w' = .ok (.tuple #[.agg #[.int .u32 j.1, .int .u32 j.2], v]) w' → wpListIn F n Tryd.prog ops Q rest (a.put o.dst (.tuple #[.bool true, .agg #[.int .u32 j.1, .int .u32 j.2], v])) w') : wpListIn F n Tryd.prog ops Q (o :: rest) a w := by
  refine wpListIn_plain hg fun K' hK' => ?_
  unfold Oper.wpIn
  refine ⟨?_, ?_⟩
  · simp [Oper.about, hop, Sem.run_pure]
  · rw [Oper.semAt_plain F _ _ (by rw [hop]; intro c hc'; cases hc')]
    rcases h.next o.type with ⟨h0, hrun⟩ | ⟨j, v, w', cnt', hjL, hjp, hrun, hm, hlt, hgr, hsz, hen⟩
    · simp [execOp, hop, hit, hrun, Result.andThen]
      exact hK' _ _ (hDone h0)
    · unfold rkey at hrun hen
      simp [execOp, hop, hit, hrun, Result.andThen]
      exact hK' _ _ (hMore j v w' cnt' hjL hjp hm hlt hgr hsz hen)
end
end Go.Proofs.YtdbpmojblgmhdaaDoor
