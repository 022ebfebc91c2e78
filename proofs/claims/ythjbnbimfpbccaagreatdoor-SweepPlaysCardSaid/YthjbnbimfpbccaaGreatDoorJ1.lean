/-
  Small words that all my texts share: a block that is known whole (At), a frame that says which old blocks may have turned (Fr), how a quiet contract is handed to a region that draws, the ends of rows. No condition.
-/
import Derived.Test.YthjbnbimfpbccaaGreatDoorRows
import Derived.WalkKit
import Derived.ProofKit
import Derived.OpenShut
import Derived.Outline
import Derived.LoopTactic
import Derived.BigQuiet
import Derived.Handy
import Derived.Lib.Hide
import Derived.Below
import Derived.Deep.QuietTactic
import Derived.Deep.Draws
import Derived.Deep.OwnRows
import Derived.Deep.RegionWith
import Derived.Deep.LoopGhost
import Derived.Deep.Cut
import Derived.Laws.Rows
import Derived.Laws.AppendOwn
import Derived.Laws.OwnMore
import Derived.Laws.BitsAll
import Derived.ChangeSame
import Derived.Deep.Slices
import Derived.Deep.Fields
import Derived.Maps.AppendAt
import Derived.WalkSpells
import Derived.Lib.SliceRun
import Derived.Laws.MakeOwn
import Derived.Laws.CopyRow
import Derived.OrdersHeld
import Derived.Deep.RegionHeld
import Derived.Lib.AppendZerosOnto
import Derived.Lib.Overlaps
import Derived.Laws.Externs
import Derived.Deep.CutBlock
import Derived.Deep.DeepCutAuto
import Derived.RangeFuncNested
import Derived.RangeFuncBound
import Derived.RangeFuncCalls
import Derived.RangeFuncLeaves
import Derived.Shelf.Abstract
import Derived.Shelf.RegionOpen
import Derived.OwnWalkIn
import Derived.TacticsInMore
import Derived.LoopNIn
import Derived.LoopIn
import Derived.StillTailTactics
import Derived.Deep.RegionHeld3
namespace Go.Proofs.YthjbnbimfpbccaaGreatDoor
open Go.ChangeShapes Go.WideShapes Go.ChangeAt Go.RowKit

/-! ### blocks known whole -/
def At (w : World) (g : Nat) (t : TypeId) (cs : Array Value) : Prop := w.heap[g]? = some (.cells cs t (0, 0))

structure Fr (S : List Nat) (w w' : World) : Prop where
  os : w'.os = w.os
  tape : w'.tape = w.tape
  output : w'.output = w.output
  size : w.heap.size ≤ w'.heap.size
  keep : ∀ k, k < w.heap.size → k ∉ S → w'.heap[k]? = w.heap[k]?

section
variable {w w' w'' : World} {g : Nat} {t : TypeId} {cs : Array Value} {S T : List Nat}
theorem At.lt (h : At w g t cs) : g < w.heap.size := by
  rcases Nat.lt_or_ge g w.heap.size with hlt | hge
  · exact hlt
  · unfold At at h; rw [Array.getElem?_eq_none hge] at h; cases h
theorem At.cell (h : At w g t cs) (i : Nat) : w.cell? ⟨g, i, none⟩ = cs[i]? := by unfold At at h; simp [World.cell?, h]
theorem At.froz (h : At w g t cs) (i : Nat) : w.frozen? ⟨g, i, none⟩ = false := by unfold At at h; simp [World.frozen?, h]
theorem At.fr (h : At w g t cs) (f : Fr S w w') (hg : g ∉ S) : At w' g t cs := (f.keep g h.lt hg).trans h
theorem At.frh {v : World} (h : At w g t cs) (f : Fr S v w') (hv : v.heap = w.heap) (hg : g ∉ S) : At w' g t cs := At.fr (w := v) (by unfold At; rw [hv]; exact h) f hg
theorem At.hp (h : At w g t cs) (hv : w'.heap = w.heap) : At w' g t cs := by unfold At at *; rw [hv]; exact h
theorem At.new (w : World) (t : TypeId) (cs : Array Value) : At (w.alloc (.cells cs t)) w.heap.size t cs := heap_alloc_new w _
theorem At.set (h : At w g t cs) (i : Nat) (u : Value) : At (w.setCell ⟨g, i, none⟩ u) g t (cs.setIfInBounds i u) := by
  unfold At at h ⊢
  simp [World.setCell, Array.getElem?_modify, h]
theorem At.inj {t' : TypeId} {cs' : Array Value} (h : At w g t cs) (h' : At w g t' cs') : t = t' ∧ cs = cs' := by
  unfold At at h h'; rw [h] at h'; injection h' with h'; injection h' with a b; exact ⟨b, a⟩
theorem At.drewN (h : At w g t cs) (n : Nat) : At (w.drewN n) g t cs := h
theorem At.old (h : At w g t cs) (o : Obj) : At (w.alloc o) g t cs := (Below.heap_alloc w o g h.lt).trans h
theorem At.far (h : At w g t cs) {a : Addr} (ha : g ≠ a.block) (u : Value) : At (w.setCell a u) g t cs := (Below.heap_setCell w a u g ha).trans h

theorem Fr.refl (S : List Nat) (w : World) : Fr S w w := ⟨rfl, rfl, rfl, Nat.le_refl _, fun _ _ _ => rfl⟩
theorem Fr.drewN (f : Fr S w w') (n : Nat) : Fr S w (w'.drewN n) := ⟨f.os, f.tape, f.output, f.size, f.keep⟩
theorem Fr.drew (f : Fr S w w') : Fr S w w'.drew := ⟨f.os, f.tape, f.output, f.size, f.keep⟩
theorem Fr.alloc (f : Fr S w w') (o : Obj) : Fr S w (w'.alloc o) :=
  ⟨f.os, f.tape, f.output, Nat.le_trans f.size (by simp), fun k hk hS => (Below.heap_alloc w' o k (Nat.lt_of_lt_of_le hk f.size)).trans (f.keep k hk hS)⟩
theorem Fr.set (f : Fr S w w') {a : Addr} (ha : a.block ∈ S ∨ w.heap.size ≤ a.block) (u : Value) : Fr S w (w'.setCell a u) :=
  ⟨f.os, f.tape, f.output, by simpa using f.size, fun k hk hS => (Below.heap_setCell w' a u k (by
    rintro rfl
    rcases ha with ha | ha
    · exact hS ha
    · omega)).trans (f.keep k hk hS)⟩
theorem Fr.trans (f : Fr S w w') (f' : Fr T w' w'') (hT : ∀ k ∈ T, k ∈ S ∨ w.heap.size ≤ k) : Fr S w w'' :=
  ⟨f'.os.trans f.os, f'.tape.trans f.tape, f'.output.trans f.output, Nat.le_trans f.size f'.size, fun k hk hS =>
    (f'.keep k (Nat.lt_of_lt_of_le hk f.size) (fun hkT => by
      rcases hT k hkT with h | h
      · exact hS h
      · omega)).trans (f.keep k hk hS)⟩
theorem Fr.hd {v : World} (f : Fr S v w') (h1 : v.os = w.os) (h2 : v.tape = w.tape) (h3 : v.output = w.output) (h4 : v.heap = w.heap) : Fr S w w' :=
  ⟨f.os.trans h1, f.tape.trans h2, f.output.trans h3, by rw [← h4]; exact f.size, fun k hk hS => by rw [f.keep k (by rw [h4]; exact hk) hS, h4]⟩
theorem Fr.hd' {v v' : World} (f : Fr S w v) (h1 : v'.os = v.os) (h2 : v'.tape = v.tape) (h3 : v'.output = v.output) (h4 : v'.heap = v.heap) : Fr S w v' :=
  ⟨h1.trans f.os, h2.trans f.tape, h3.trans f.output, by rw [h4]; exact f.size, fun k hk hS => by rw [h4]; exact f.keep k hk hS⟩
theorem Fr.trans0 (f : Fr S w w') (f' : Fr [] w' w'') : Fr S w w'' := f.trans f' (by simp)
theorem Fr.more (f : Fr S w w') (h : ∀ k ∈ S, k ∈ T ∨ w.heap.size ≤ k) : Fr T w w' :=
  ⟨f.os, f.tape, f.output, f.size, fun k hk hT => f.keep k hk (fun hkS => by
    rcases h k hkS with h | h
    · exact hT h
    · omega)⟩
theorem Fr.of_below (h : Below w.heap.size w w') : Fr [] w w' := ⟨h.os, h.tape, h.output, h.size, fun k hk _ => h.block k hk⟩
theorem Fr.below (f : Fr [] w w') : Below w.heap.size w w' := ⟨f.os, f.tape, f.output, f.size, fun k hk => f.keep k hk (by simp)⟩
theorem Fr.cell (f : Fr S w w') {a : Addr} (h : a.block < w.heap.size) (hS : a.block ∉ S) : w'.cell? a = w.cell? a := World.cell?_of_block (f.keep a.block h hS)
theorem Fr.froz (f : Fr S w w') {a : Addr} (h : a.block < w.heap.size) (hS : a.block ∉ S) : w'.frozen? a = w.frozen? a := World.frozen?_of_block (f.keep a.block h hS)
theorem Fr.grown {row : Option Nat} (f : w.grownBy w' row) : Fr row.toList w w' := ⟨f.os, f.tape, f.output, f.size, fun k hk hS => f.block k hk (by rintro rfl; simp at hS)⟩
theorem At.lt' (h : At w g t cs) (f : Fr S w w') : g < w'.heap.size := Nat.lt_of_lt_of_le h.lt f.size
end

/-! ### endings -/
theorem ret_int {k : IntKind} {a b : Int} (h : a = b) : Ending.returned (.int k a) = .returned (.int k b) := by rw [h]
theorem ret_bool {a b : Bool} (h : a = b) : Ending.returned (.bool a) = .returned (.bool b) := by rw [h]
theorem ret_two {k l : IntKind} {a b c d : Int} (h : a = c) (g : b = d) : Ending.returned (.tuple #[.int k a, .int l b]) = .returned (.tuple #[.int k c, .int l d]) := by rw [h, g]
theorem res_tmp4 {fn : Func} {t u v x : Tmp} (h : fn.results = #[.tmp t, .tmp u, .tmp v, .tmp x]) (tmps : Array Value) (P : Program) (w : World) :
    (results fn tmps).run P w = .ok (.tuple #[tmps.getD t undef, tmps.getD u undef, tmps.getD v undef, tmps.getD x undef]) w := by simp [results, h]
theorem res_tmp5 {fn : Func} {t u v x y : Tmp} (h : fn.results = #[.tmp t, .tmp u, .tmp v, .tmp x, .tmp y]) (tmps : Array Value) (P : Program) (w : World) :
    (results fn tmps).run P w = .ok (.tuple #[tmps.getD t undef, tmps.getD u undef, tmps.getD v undef, tmps.getD x undef, tmps.getD y undef]) w := by simp [results, h]

/-! ### quiet contracts -/
section
variable {P : Program} {f : FuncId} {args : Array Value} {w : World} {v : Value}
theorem q_same {n : Nat} (h : Calls P f args (w.drewN n) fun e w' => e = .returned v ∧ w.drewN n = w') : Calls P f args (w.drewN n) fun e w' => e = .returned v ∧ ∃ m, w' = w.drewN m :=
  h.mono fun _ _ ⟨he, hm⟩ => ⟨he, n, hm.symm⟩
theorem q_same_add {a n : Nat} (h : Calls P f args (w.drewN (a + n)) fun e w' => e = .returned v ∧ w.drewN (a + n) = w') : Calls P f args (w.drewN (a + n)) fun e w' => e = .returned v ∧ ∃ m, w' = w.drewN (a + m) :=
  h.mono fun _ _ ⟨he, hm⟩ => ⟨he, n, hm.symm⟩
theorem q_draw {n : Nat} (h : Calls P f args (w.drewN n) fun e w' => e = .returned v ∧ ∃ m, w' = (w.drewN n).drewN m) : Calls P f args (w.drewN n) fun e w' => e = .returned v ∧ ∃ m, w' = w.drewN m :=
  h.mono fun _ _ ⟨he, m, hm⟩ => ⟨he, n + m, by rw [hm, World.drewN_drewN]⟩
theorem q_draw_add {a n : Nat} (h : Calls P f args (w.drewN (a + n)) fun e w' => e = .returned v ∧ ∃ m, w' = (w.drewN (a + n)).drewN m) : Calls P f args (w.drewN (a + n)) fun e w' => e = .returned v ∧ ∃ m, w' = w.drewN (a + m) :=
  h.mono fun _ _ ⟨he, m, hm⟩ => ⟨he, n + m, by rw [hm, World.drewN_drewN, Nat.add_assoc]⟩
end

/-! ### the end of a row: the world has turned in new blocks alone -/
section
variable {H : Type} {enc : TypeId × Value → H} {P : Program}
theorem post_fr {f : Func} {s : ChangeSpec} {apart fresh handsOn again : Bool} {W W' : World} {args : Array Value} {v : Value} {ds gs : List (DataW H)} {before pa pv : List MemPlace}
    (hW : DataW.Whole enc P f.params.toList s.vars apart W args.toList ds gs before)
    (hres : ∀ (b : Nat) (sp : Nat → Bool) (hd : Bool), DataW.TrodAll enc P W' b sp hd f.resultTypes.toList (v.resultList f.resultTypes.size) (s.fn H (ds ++ gs)).results [])
    (hargs : ∀ sp : Nat → Bool, (∀ p ∈ before, sp p.block = true) → DataW.TrodAll enc P W' 0 sp true f.params.toList args.toList (s.fn H (ds ++ gs)).args pa)
    (hvars : ∀ sp : Nat → Bool, (∀ p ∈ before, sp p.block = true) → DataW.TrodVars enc P W' sp s.vars (s.fn H (ds ++ gs)).vars pv)
    (hps : before = pa ++ pv) (hb : Fr [] W W')
    (hok : ∀ (j : Nat) (t : TypeId) (r : Value), f.resultTypes[j]? = some t → (v.resultList f.resultTypes.size)[j]? = some r → Value.okWide P W' .any 0 t r) :
    s.post enc P f apart fresh handsOn again W args v W' := by
  have hlt : ∀ p ∈ before, p.block < W.heap.size := fun p hp => hW.lt p hp
  have hold : ∀ p ∈ before, (fun b => decide (b < W.heap.size)) p.block = true := fun p hp => by simpa using hlt p hp
  refine ⟨ds, gs, before, [], pa, pv, hW, hres _ _ _, hargs _ hold, hvars _ hold, World.keptBut_mono (fun p hp => ⟨hp, ?_⟩) (hb.below.frame (· ∈ before)), fun _ => ?_⟩
  · rw [hps, List.mem_append] at hp
    exact Or.inr hp
  · obtain ⟨_, _, _, _, _, hz, hn⟩ := hW
    refine ⟨hok, _, _, ([] ++ pa) ++ pv, ⟨[] ++ pa, pv, trodAll_append (hargs _ (fun _ _ => rfl)) (hres _ _ _), hvars _ (fun _ _ => rfl), rfl, ?_, ?_⟩, ?_⟩
    · intro b off hp
      have hin : MemPlace.cell b off ∈ before := by rw [hps]; simpa using hp
      rw [hb.below.frozen (hlt _ hin)]
      exact hz b off hin
    · intro ha
      have := hn ha
      rw [hps] at this
      simpa using this
    · intro p hp _
      rw [hps]
      simpa using hp
end

/-! ### a slice of integers that came in -/
/-- The slice's first len numbers are zs, and each lies in a cell; base a where there is one. -/
def Ints (k : IntKind) (w : World) (a : Option Addr) (len : Nat) (zs : List Int) : Prop :=
  len ≤ 9223372036854775807 ∧ zs.length = len ∧ (∀ z ∈ zs, (Lit.int k z).wf = true) ∧
  (len = 0 ∨ ∃ b off, a = some ⟨b, off, none⟩ ∧ b < w.heap.size ∧ ∀ i, i < len → w.cell? ⟨b, off + i, none⟩ = some (.int k (zs.getD i 0)))
theorem Ints.nil {k : IntKind} {w : World} (a : Option Addr) : Ints k w a 0 [] := ⟨by omega, rfl, by simp, .inl rfl⟩
theorem lt_of_cell {w : World} {a : Addr} {v : Value} (h : w.cell? a = some v) : a.block < w.heap.size := by
  rcases Nat.lt_or_ge a.block w.heap.size with hlt | hge
  · exact hlt
  · simp [World.cell?, Array.getElem?_eq_none hge] at h
theorem Ints.of {k : IntKind} {w : World} {x : Addr} {len cap : Nat} {zs : List Int} (hl : len ≤ cap) (hm : cap ≤ maxLen) (hz : zs.length = cap)
    (hcell : ∀ i, i < zs.length → w.cell? (x.add i) = some (.int k (zs.getD i 0))) (hw : ∀ z ∈ zs, (Lit.int k z).wf = true) : Ints k w (some x) len (zs.take len) := by
  unfold maxLen at hm
  refine ⟨by omega, by simp; omega, fun z h => hw z (List.mem_of_mem_take h), ?_⟩
  by_cases h0 : len = 0
  · exact .inl h0
  · refine .inr ?_
    have hne : 0 < zs.length := by omega
    obtain ⟨b, off, rfl, hc⟩ := ints_at hcell hne
    refine ⟨b, off, rfl, lt_of_cell (hc 0 hne), fun i hi => ?_⟩
    rw [hc i (by omega)]
    simp [List.getD_eq_getElem?_getD, hi]
/-! ### an array of two integers that came in by value -/
section
variable {H : Type} {enc : TypeId × Value → H} {P : Program} {k e : TypeId} {q : IntKind} {W : World} {base : Nat} {sp : Nat → Bool} {held : Bool}
theorem open_arr2 (hu : P.underlying k = some (.array 2 e)) (he : P.underlying e = some (.int q)) (h1 : P.cellsOf e = 1) (h2 : P.cellsOf k = 2) {r : Reach} {b0 : Nat} {v : Value} {d : DataW H} {ps : List MemPlace}
    (hv : Value.okWide P W r b0 k v) (h : DataW.Trod enc P W base sp held k v d ps) : ∃ x y : Int, v = .agg #[.int q x, .int q y] ∧ (Lit.int q x).wf = true ∧ (Lit.int q y).wf = true := by
  simp only [Value.okWide, hu] at hv
  obtain ⟨cs, rfl, hsz, _⟩ := hv
  rw [h2] at hsz
  obtain ⟨l⟩ := cs
  match l, hsz with
  | [c0, c1], _ =>
    obtain ⟨fuel, hf⟩ := h
    cases fuel with
    | zero => simp [DataW.trod] at hf
    | succ m =>
      rw [DataW.trod_step] at hf
      unfold DataW.trodStep at hf
      simp only [hu, Value.cells] at hf
      rw [if_pos (by simp [h2])] at hf
      simp only [Option.map_eq_some_iff] at hf
      obtain ⟨ys, hy, _⟩ := hf
      rw [show List.range 2 = [0, 1] from rfl] at hy
      simp only [List.mapM_cons, List.mapM_nil, h1, bind, Option.bind_eq_some_iff, pure] at hy
      obtain ⟨y0, hy0, ys', ⟨y1, hy1, _⟩, _⟩ := hy
      obtain ⟨x, ex, _, wx⟩ := DataW.trod_int he hy0
      obtain ⟨y, ey, _, wy⟩ := DataW.trod_int he hy1
      simp at ex ey
      exact ⟨x, y, by rw [ex, ey], wx, wy⟩
end
/-! ### a slice of records that came in, each field of one cell -/
def QI (k : IntKind) (v : Value) : Prop := ∃ z : Int, v = .int k z ∧ (Lit.int k z).wf = true
def QB (v : Value) : Prop := ∃ b : Bool, v = .bool b
def Recs (w : World) (a : Option Addr) (len nf : Nat) (Q : Nat → Value → Prop) : Prop :=
  len ≤ 9223372036854775807 ∧ (len = 0 ∨ ∃ b off, a = some ⟨b, off, none⟩ ∧ b < w.heap.size ∧ ∀ i, i < len → ∀ j, j < nf → ∃ v, w.cell? ⟨b, off + (i * nf + j), none⟩ = some v ∧ Q j v)
section
variable {H : Type} {enc : TypeId × Value → H} {P : Program} {w : World} {base : Nat} {spare : Nat → Bool} {held : Bool}
theorem open_recs {t e : TypeId} {fs : Array Field} {fuel : Nat} {a : Option Addr} {len cap : Nat} {x : DataW H × List MemPlace} (Q : Nat → Value → Prop) (ht : P.underlying t = some (.slice e)) (he : P.underlying e = some (.struct fs))
    (hone : Deep.oneCellFields P fs = true) (hC : P.cellsOf e = fs.size) (hpos : 0 < fs.size) (h : DataW.trod enc P w base spare held fuel t [.slice a len cap] = some x)
    (hQ : ∀ (j : Nat) (f : Field) (v : Value) (y : DataW H × List MemPlace) (n : Nat), fs[j]? = some f → DataW.trod enc P w base spare held n f.type [v] = some y → Q j v) : Recs w a len fs.size Q := by
  rcases Deep.open_slice ht h with ⟨h0, _⟩ | ⟨ad, l, c, m, n, D, Pl, hcs, hb, hl, hm, hmm, hx, hi⟩
  · simp at h0
    obtain ⟨_, rfl, _⟩ := h0
    exact ⟨by omega, .inl rfl⟩
  · simp at hcs
    obtain ⟨rfl, rfl, rfl⟩ := hcs
    unfold maxLen at hm
    refine ⟨by omega, ?_⟩
    by_cases hz : len = 0
    · exact .inl hz
    · refine .inr ?_
      have hlm : len ≤ m := by rw [hmm]; split <;> omega
      have key : ∀ i, i < len → ∀ j, j < fs.size → ∃ v, w.cell? (ad.add (i * fs.size + j)) = some v ∧ Q j v := by
        intro i hil j hj
        obtain ⟨cs', hc, ht'⟩ := hi i (by omega)
        rw [hC] at hc
        obtain ⟨ys, n', hn', hy, hlen, hyl, hf⟩ := DataW.trod_struct he ht'
        obtain ⟨_, hcl, hat⟩ := World.cells?_some hc
        have hfj : fs[j]? = some fs[j] := Array.getElem?_eq_getElem hj
        obtain ⟨ho, hk⟩ := Deep.hone_of hone j _ hfj
        have hcell := hat j hj
        have h1 := hf j _ hfj
        rw [ho, hk] at h1
        have hone' : (cs'.drop j).take 1 = [cs'[j]'(by omega)] := by
          rw [List.drop_eq_getElem_cons (by omega)]
          rfl
        rw [hone'] at h1
        have hys : ys[j]? = some (ys[j]'(by omega)) := List.getElem?_eq_getElem (by omega)
        refine ⟨cs'[j]'(by omega), ?_, hQ j _ _ _ _ hfj (h1.trans hys)⟩
        rw [← Deep.add_add, hcell, List.getElem?_eq_getElem (by omega)]
      obtain ⟨v0, hv0, _⟩ := key 0 (by omega) 0 hpos
      obtain ⟨b, off, spot⟩ := ad
      have hspot : spot = none := by
        have := World.cell?_spot hv0
        simpa [Addr.add] using this
      subst hspot
      refine ⟨b, off, rfl, by have := lt_of_cell hv0; rw [Go.WideShapes.add_plain] at this; exact this, fun i hil j hj => ?_⟩
      obtain ⟨v, hv, hq⟩ := key i hil j hj
      rw [Go.WideShapes.add_plain] at hv
      exact ⟨v, hv, hq⟩
end
theorem own : ownKnob Tryz.prog.godebug = none := by kernel_rfl
end Go.Proofs.YthjbnbimfpbccaaGreatDoor
/-
  A sweeper's state asked for, and what else is asked. No condition.
-/


set_option linter.unusedVariables false
namespace Go.Proofs.YthjbnbimfpbccaaGreatDoor
open Go.ChangeShapes Go.WideShapes Go.ChangeAt Go.RowKit
theorem swin_nil (w : World) (st : Int) (v : Value) : Calls Tryz.prog 47 #[.pointer none, .int .i64 st, v] w fun r w' => r = .returned (.bool false) ∧ w = w' := by
  go_enter Tryz.func47, Tryz.ntmps47
  go_wp2_with fail
  go_ret
  exact ⟨rfl, rfl⟩
section
variable (w : World) (sp gp : Nat) (st x : Int) (c0 : w.cell? ⟨sp, 0, none⟩ = some (.pointer (some ⟨gp, 0, none⟩))) (c4 : w.cell? ⟨sp, 4, none⟩ = some (.int .i64 x))
include c0 c4
theorem swin_no (v : Value) (h : x ≠ st) : Calls Tryz.prog 47 #[.pointer (some ⟨sp, 0, none⟩), .int .i64 st, v] w fun r w' => r = .returned (.bool false) ∧ w = w' := by
  have h1 : (x != st) = true := by simpa using h
  go_enter Tryz.func47, Tryz.ntmps47
  go_wp2_with fail
  go_ret
  exact ⟨rfl, rfl⟩
theorem swin_0 (cap : Nat) (h : x = st) : Calls Tryz.prog 47 #[.pointer (some ⟨sp, 0, none⟩), .int .i64 st, .slice none 0 cap] w fun r w' => r = .returned (.bool true) ∧ w = w' := by
  subst h
  go_enter Tryz.func47, Tryz.ntmps47
  go_wp2_with fail
  go_loopw [28] (fun i wr => i = .int .i64 0 ∧ w = wr) (fun _ _ => 0)
  case atStart => exact ⟨rfl, rfl⟩
  case round =>
    obtain ⟨rfl, rfl⟩ := hrel
    go_wp2_with fail
    go_ret
    exact ⟨rfl, rfl⟩
theorem swin_1 (q cap : Nat) (id : FuncId) (env : Array Value) (X : World → Prop) (b : Bool) (h : x = st) (hq : w.cell? ⟨q, 0, none⟩ = some (.func (.func id) #[] env))
    (heg : ∀ args W, (callFunc id args).run Tryz.prog W = .ok (.enter id args) W) (hc : Calls Tryz.prog id env w fun r w' => r = .returned (.bool b) ∧ X w') :
    Calls Tryz.prog 47 #[.pointer (some ⟨sp, 0, none⟩), .int .i64 st, .slice (some ⟨q, 0, none⟩) 1 cap] w fun r w' => r = .returned (.bool b) ∧ X w' := by
  subst h
  have HC := Lib.hid hc
  clear hc
  go_enter Tryz.func47, Tryz.ntmps47
  go_wp2_with fail
  go_loopw [28] (fun i wr => (i = .int .i64 0 ∧ w = wr) ∨ (i = .int .i64 1 ∧ b = true ∧ X wr)) (fun i _ => 1 - (intOf i).toNat)
  case atStart => exact .inl ⟨rfl, rfl⟩
  case round =>
    rcases hrel with ⟨rfl, rfl⟩ | ⟨rfl, rfl, hx⟩
    · go_wp2_with fail
      refine HC.out.mono ?_
      rintro e w2 ⟨rfl, hx⟩
      have HX := Lib.hid hx
      clear hx
      cases b with
      | false =>
        go_wp2_with fail
        go_ret
        exact ⟨rfl, HX.out⟩
      | true =>
        go_wp2_with fail
        go_roundw
        case rel => exact .inr ⟨by first | rfl | trivial, by first | rfl | trivial, HX.out⟩
        case measure => simp [intOf]
    · have HX := Lib.hid hx
      clear hx
      go_wp2_with fail
      go_ret
      exact ⟨rfl, HX.out⟩
end
end Go.Proofs.YthjbnbimfpbccaaGreatDoor
/-
  Small words for lists in memory: a slice value that owns its cells (the kit's ownsRow), as it abides frames; lists of truths. No condition.
-/

set_option linter.unusedVariables false
namespace Go.Proofs.YthjbnbimfpbccaaGreatDoor
open Go.ChangeShapes Go.WideShapes Go.ChangeAt Go.RowKit
section
variable {w w' : World} {b b' : Nat} {e : TypeId} {size : Nat} {v : Value} {n : Nat} {xs : List Value} {S : List Nat}
theorem own_fr (h : w.ownsRow b e size v n xs) (f : Fr S w w') (hS : ∀ g, v.ownBlock = some g → g ∉ S) : w'.ownsRow b e size v n xs := by
  refine ⟨h.1, ?_⟩
  rcases h.2 with hn | ⟨g, cap, cur, rfl, hb, hgg, rest⟩
  · exact .inl hn
  · exact .inr ⟨g, cap, cur, rfl, hb, (f.keep g (Array.getElem?_eq_some_iff.1 hgg).1 (hS g rfl)).trans hgg, rest⟩
theorem own_fr0 (h : w.ownsRow b e size v n xs) (f : Fr [] w w') : w'.ownsRow b e size v n xs := own_fr h f (by simp)
theorem own_heap (h : w.ownsRow b e size v n xs) (hv : w'.heap = w.heap) : w'.ownsRow b e size v n xs := by
  unfold World.ownsRow at *; rw [hv]; exact h
theorem own_base (h : w.ownsRow b e size v n xs) (hb : b' ≤ b) : w.ownsRow b' e size v n xs := by
  refine ⟨h.1, ?_⟩
  rcases h.2 with hn | ⟨g, cap, cur, rfl, hbg, rest⟩
  · exact .inl hn
  · exact .inr ⟨g, cap, cur, rfl, by omega, rest⟩
theorem own_slice (h : w.ownsRow b e size v n xs) : ∃ a c, v = .slice a n c ∧ n ≤ c := by
  rcases h.2 with ⟨rfl, rfl⟩ | ⟨g, cap, cur, rfl, hbg, h1, h2, _⟩
  · exact ⟨_, _, rfl, Nat.le_refl _⟩
  · exact ⟨_, _, rfl, h2⟩
theorem own_len (h : w.ownsRow b e size v n xs) : n ≤ maxLen := by
  rcases h.2 with ⟨rfl, rfl⟩ | ⟨g, cap, cur, rfl, hbg, h1, h2, h3, _⟩
  · unfold maxLen; omega
  · omega
/-- A block of another type is not the list's. -/
theorem own_ne (h : w.ownsRow b e size v n xs) {q : Nat} {t : TypeId} {cs : Array Value} (hq : At w q t cs) (ht : t ≠ e) : ∀ g, v.ownBlock = some g → g ≠ q := by
  rintro g hg rfl
  rcases h.2 with ⟨rfl, rfl⟩ | ⟨g', cap, cur, rfl, hbg, h1, _⟩
  · simp [Value.ownBlock] at hg
  · simp [Value.ownBlock] at hg
    subst hg
    exact ht (hq.inj h1).1
theorem own_toList (h : w.ownsRow b e size v n xs) {q : Nat} {t : TypeId} {cs : Array Value} (hq : At w q t cs) (ht : t ≠ e) : q ∉ v.ownBlock.toList := by
  intro hm
  cases hv : v.ownBlock with
  | none => rw [hv] at hm; simp at hm
  | some g =>
    rw [hv] at hm
    simp at hm
    exact own_ne h hq ht g hv hm.symm
/-- The cells of a list that is not empty. -/
theorem own_open (h : w.ownsRow b e 1 v n xs) (hn : 0 < n) : ∃ g c, v = .slice (some ⟨g, 0, none⟩) n c ∧ n ≤ c ∧ b ≤ g ∧ g < w.heap.size ∧ (∀ k, k < n → w.cell? ⟨g, k, none⟩ = xs[k]?) ∧ ∀ k, w.frozen? ⟨g, k, none⟩ = false := by
  rcases h.2 with ⟨rfl, rfl⟩ | ⟨g, cap, cur, rfl, hbg, h1, h2, h3, h4, h5⟩
  · omega
  · have ha : At w g e cur := h1
    refine ⟨g, cap, rfl, h2, hbg, ha.lt, fun k hk => ?_, fun k => ha.froz k⟩
    rw [ha.cell k, ← h5, List.getElem?_take, if_pos (by omega)]
    simp
theorem own_set (h : w.ownsRow b e 1 v n xs) {g c : Nat} (hv : v = .slice (some ⟨g, 0, none⟩) n c) (k : Nat) (u : Value) : (w.setCell ⟨g, k, none⟩ u).ownsRow b e 1 v n (xs.set k u) := by
  subst hv
  rcases h.2 with ⟨h0, _⟩ | ⟨g', cap, cur, h0, hbg, h1, h2, h3, h4, h5⟩
  · cases h0
  · injection h0 with ha _ hc
    injection ha with ha
    injection ha with ha
    subst ha hc
    refine ⟨by rw [List.length_set]; exact h.1, .inr ⟨g, c, cur.setIfInBounds k u, rfl, hbg, At.set h1 k u, h2, h3, by simpa using h4, ?_⟩⟩
    rw [← h5]
    simp [List.take_set]
end
/-- A frame across an append to a list that lies beyond. -/
theorem Fr.app {S : List Nat} {w W W' : World} {v : Value} {B : Nat} {e : TypeId} {size n : Nat} {xs : List Value} (f : Fr S w W) (hg : W.grownBy W' v.ownBlock) (h : W.ownsRow B e size v n xs) (hB : w.heap.size ≤ B) : Fr S w W' :=
  f.trans (Fr.grown hg) (fun k hk => by
    cases hv : v.ownBlock with
    | none => rw [hv] at hk; simp at hk
    | some r => rw [hv] at hk; simp at hk; subst hk; exact .inr (Nat.le_trans hB (h.lt _ hv).1))
/-- A literal slice of structs, by a closed fact on the instruction. -/
theorem wpList_buildSlice {P : Program} {ops : Array Oper} {rest : List Oper} {o : Oper} {a : Act} {Q : Exit → Act → World → Prop} {w : World} (hgd : o.guard = none) (t len : Nat) (parts : Array (Nat × Operand)) (lit : Array (Nat × Value)) (v : Value) (w' : World)
    (hr : (Instr.buildSlice t len lit).run P w = .ok v w') (ho : o.op = .buildSlice t len parts) (hp : (parts.map fun (i, x) => (i, a.eval x)) = lit) (h : wpList P ops Q rest (a.put o.dst v) w') : wpList P ops Q (o :: rest) a w := by
  refine wpList_plain hgd fun K hK => ?_
  unfold Oper.wp execOp
  simp only [ho, hp, Sem.run_bind, hr, Result.andThen_ok, Sem.run_pure]
  exact hK _ _ h
theorem wp_buildSlice {P : Program} {o : Oper} {a : Act} {K : Act → World → Prop} {Q : Exit → Act → World → Prop} {w : World} (t len : Nat) (parts : Array (Nat × Operand)) (lit : Array (Nat × Value)) (v : Value) (w' : World)
    (hr : (Instr.buildSlice t len lit).run P w = .ok v w') (ho : o.op = .buildSlice t len parts) (hp : (parts.map fun (i, x) => (i, a.eval x)) = lit) (h : K (a.put o.dst v) w') : o.wp P a w K Q := by
  unfold Oper.wp execOp
  simp only [ho, hp, Sem.run_bind, hr, Result.andThen_ok, Sem.run_pure]
  exact h
/-! ### lists of truths -/
def bls (n : Nat) (f : Nat → Bool) : List Value := (List.range n).map fun k => .bool (f k)
theorem bls_len (n : Nat) (f : Nat → Bool) : (bls n f).length = n := by simp [bls]
theorem bls_get (n : Nat) (f : Nat → Bool) (k : Nat) (h : k < n) : (bls n f)[k]? = some (.bool (f k)) := by simp [bls, List.getElem?_range h]
theorem bls_snoc (n : Nat) (f : Nat → Bool) : bls n f ++ [.bool (f n)] = bls (n + 1) f := by simp [bls, List.range_succ]
theorem bls_congr (n : Nat) (f f' : Nat → Bool) (h : ∀ k, k < n → f k = f' k) : bls n f = bls n f' := by
  unfold bls
  refine List.map_congr_left fun k hk => ?_
  rw [h k (by simpa using hk)]
theorem bls_one (n : Nat) (f : Nat → Bool) : ∀ u ∈ bls n f, u.oneCell' = true := fun u hu => by
  unfold bls at hu
  obtain ⟨k, _, rfl⟩ := List.mem_map.1 hu
  rfl
/-- An array of truths, by value. -/
def batr (n : Nat) (f : Nat → Bool) : Array Value := (bls n f).toArray
theorem batr_get (n : Nat) (f : Nat → Bool) (k : Nat) (h : k < n) : (batr n f)[k]? = some (.bool (f k)) := by
  unfold batr; rw [List.getElem?_toArray]; exact bls_get n f k h
theorem batr_set (n : Nat) (f : Nat → Bool) (i : Nat) (b : Bool) : (batr n f).setIfInBounds i (.bool b) = batr n (fun j => if j = i then b else f j) := by
  refine Array.ext_getElem? fun j => ?_
  rw [Array.getElem?_setIfInBounds]
  have hs : ∀ g, (batr n g).size = n := fun g => by simp [batr, bls_len]
  by_cases hj : j < n
  · rw [batr_get _ _ _ hj, batr_get _ _ _ hj, hs]
    by_cases e : i = j
    · subst e; simp [hj]
    · rw [if_neg e, if_neg (fun h => e h.symm)]
  · have h1 : ∀ g, (batr n g)[j]? = none := fun g => Array.getElem?_eq_none (by rw [hs]; omega)
    rw [h1, h1, hs]
    by_cases e : i = j
    · subst e; simp [hj]
    · rw [if_neg e]
end Go.Proofs.YthjbnbimfpbccaaGreatDoor
/-
  make and copy of slices whose elements lie in several cells. Condition: the sizes that Go itself allows.
-/

set_option linter.unusedVariables false
namespace Go.Proofs.YthjbnbimfpbccaaGreatDoor
open Go.ChangeShapes Go.WideShapes Go.ChangeAt Go.RowKit
section
variable {P : Program}
theorem run_make_wide (t e : TypeId) (z : Value) (s bytes : Nat) (ht : P.underlying t = some (.slice e)) (hinfo : (P.info? e).map (fun i => (i.zero, i.size, i.bytes)) = some (some z, s, bytes))
    (kl kc : IntKind) (n : Nat) (hbytes : bytes * n ≤ 281474976710656) (h63 : n ≤ 9223372036854775807) (w : World) :
    (Instr.makeSlice t (.int kl (n : Int)) (.int kc (n : Int))).run P w = .ok (.slice (some ⟨w.heap.size, 0, none⟩) n n) (w.alloc (.cells (madeCells z.cells (n * s)) e)) := by
  obtain ⟨i, hi, hzz⟩ := Option.map_eq_some_iff.1 hinfo
  simp only [Prod.mk.injEq] at hzz
  obtain ⟨hz, hs, hb⟩ := hzz
  have hb' : (i.bytes : Int) * (n : Int) ≤ 281474976710656 := by
    have h : ((i.bytes * n : Nat) : Int) ≤ 281474976710656 := by rw [hb]; omega
    rwa [Int.natCast_mul] at h
  have hr := run_make (P := P) w t e i z ht hi hz kl kc n n (by omega) (Int.le_refl _) hb' (by omega)
  simp only [Int.toNat_natCast, hs] at hr
  exact hr
theorem run_copy_wide (w : World) (dT sT ty elem : TypeId) (s g o n dCap : Nat) (a : Addr) (sCap : Nat) (cur : Array Value) (t : TypeId) (cs : List Value)
    (hu : P.underlying dT = some (.slice elem)) (hs : (P.info? elem).map (·.size) = some s)
    (hg : w.heap[g]? = some (.cells cur t (0, 0))) (hn : cs.length = n * s)
    (hsrc : ∀ j v, cs[j]? = some v → w.cell? (a.add j) = some v) (hfit : o + cs.length ≤ cur.size) (h1 : ∀ v ∈ cs, v.oneCell' = true) :
    (Builtin.copy_ #[dT, sT] ty #[.slice (some ⟨g, o, none⟩) n dCap, .slice (some a) n sCap]).run P w =
      .ok (goInt n) (w.setRow g (cur.toList.take o ++ cs ++ cur.toList.drop (o + cs.length)).toArray) := by
  have hl := run_loadCells_list (P := P) w a cs hsrc
  have hst := run_storeCells_at P g o t cs 0 cur w hg (by simpa using hfit) h1
  cases hq : P.info? elem with
  | none => simp [hq] at hs
  | some i =>
    have hi : i.size = s := by simpa [hq] using hs
    rw [hn] at hl hst
    simp [Builtin.copy_, run_underlying hu, Builtin.lenOf, Builtin.firstCells, sizeOf, typeInfo, hq, hi, hl, hst, hn]
theorem run_copy_wide0 (w : World) (dT sT ty elem : TypeId) (d a : Option Addr) (dCap sCap : Nat)
    (hu : P.underlying dT = some (.slice elem)) (hs : ((P.info? elem).map (·.size)).isSome = true) :
    (Builtin.copy_ #[dT, sT] ty #[.slice d 0 dCap, .slice a 0 sCap]).run P w = .ok (goInt 0) w := by
  have hl : ∀ a : Addr, (loadCellsFrom a 0 0 #[]).run P w = .ok #[] w := fun a => by
    have := run_loadCells_list (P := P) w a [] (fun j v h => by simp at h)
    exact this
  cases hq : P.info? elem with
  | none => simp [hq] at hs
  | some i => cases d <;> cases a <;> simp [Builtin.copy_, run_underlying hu, Builtin.lenOf, Builtin.firstCells, sizeOf, typeInfo, hq, storeCells, loadCells, hl]
theorem wpList_copy_run {ops : Array Oper} {rest : List Oper} {o : Oper} {a : Act} {w : World} {Q : Exit → Act → World → Prop} (hgd : o.guard = none) (d s : Operand) (t t' : TypeId)
    (ho : o.op = .call { callee := .builtin .copy, args := #[d, s], argTypes := #[t, t'] }) (v u : Value) (hd : a.eval d = v) (hs : a.eval s = u) {v' : Value} {w' : World}
    (hr : (Builtin.copy_ #[t, t'] o.type #[v, u]).run P w = .ok v' w') (h : wpList P ops Q rest (a.put o.dst v') w') : wpList P ops Q (o :: rest) a w :=
  wpList_plain hgd fun K hK => by
    unfold Oper.wp execOp
    simp only [ho, resolve, invoke, builtin, Sem.run_bind, Sem.run_pure, Result.andThen_ok, List.map_toArray, List.map_cons, List.map_nil, hd, hs, hr]
    exact hK _ _ h
end
end Go.Proofs.YthjbnbimfpbccaaGreatDoor
/-
  Loads and stores of a part of a block that is known whole; the world behind a store is told by that block and a frame. Condition: the part lies within the block.
-/

set_option linter.unusedVariables false
namespace Go.Proofs.YthjbnbimfpbccaaGreatDoor
open Go.ChangeShapes Go.WideShapes Go.ChangeAt Go.RowKit
section
variable {P : Program} {ops : Array Oper} {rest : List Oper} {o : Oper} {a : Act} {w : World} {Q : Exit → Act → World → Prop} {K : Act → World → Prop}
theorem Fr.setRow (w : World) (g : Nat) (cs : Array Value) : Fr [g] w (w.setRow g cs) :=
  ⟨rfl, rfl, rfl, by simp, fun k _ hk => setRow_other w g k cs (by simpa using hk)⟩
theorem run_loadVar_at (w : World) (ty : TypeId) (ad : Addr) (cs : List Value) (d : TypeDesc) (hc : ∀ j v, cs[j]? = some v → w.cell? (ad.add j) = some v)
    (hu : P.underlying ty = some d) (hd : (match d with | .struct _ | .array _ _ => true | _ => false) = true) (hi : (P.info? ty).map (·.size) = some cs.length) :
    (loadVar ty ad).run P w = .ok (.agg cs.toArray) w := by
  have hl : (loadCells ad cs.length).run P w = .ok cs.toArray w := run_loadCells_list (P := P) w ad cs hc
  cases hq : P.info? ty with
  | none => simp [hq] at hi
  | some i =>
    have hs : i.size = cs.length := by simpa [hq] using hi
    have hagg : (isAgg ty).run P w = .ok true w := by
      unfold isAgg
      rw [Sem.run_bind, run_underlying hu w]
      cases d <;> simp_all
    simp [loadVar, Sem.run_bind, hagg, sizeOf, typeInfo, hq, hs, hl]
theorem wp_load_at (ty : TypeId) (x : Operand) (ho : o.op = .load ty x) (ad : Addr) (hx : a.eval x = .pointer (some ad)) (cs : List Value) (d : TypeDesc)
    (hc : ∀ j v, cs[j]? = some v → w.cell? (ad.add j) = some v)
    (hu : P.underlying ty = some d) (hd : (match d with | .struct _ | .array _ _ => true | _ => false) = true) (hi : (P.info? ty).map (·.size) = some cs.length)
    (h : K (a.put o.dst (.agg cs.toArray)) w) : o.wp P a w K Q := by
  unfold Oper.wp execOp
  simp only [ho, hx, Instr.loadAt, Instr.sureAddr, Sem.run_bind, Sem.run_pure, Result.andThen_ok, run_loadVar_at w ty ad cs d hc hu hd hi]
  exact h
/-- An operation that is wanted. -/
theorem wpList_want (hg : Region.wanted o (yielded ops a.tmps) = true) (h : ∀ K : Act → World → Prop, (∀ a w, wpList P ops Q rest a w → K a w) → o.wp P a w K Q) : wpList P ops Q (o :: rest) a w :=
  wpList_step fun K hK => by rw [if_pos hg]; exact h K hK
theorem wpList_load_at (hgd : Region.wanted o (yielded ops a.tmps) = true) (ty : TypeId) (x : Operand) (ho : o.op = .load ty x) (ad : Addr) (hx : a.eval x = .pointer (some ad)) (cs : List Value) (d : TypeDesc)
    (hc : ∀ j v, cs[j]? = some v → w.cell? (ad.add j) = some v)
    (hu : P.underlying ty = some d) (hd : (match d with | .struct _ | .array _ _ => true | _ => false) = true) (hi : (P.info? ty).map (·.size) = some cs.length)
    (h : wpList P ops Q rest (a.put o.dst (.agg cs.toArray)) w) : wpList P ops Q (o :: rest) a w :=
  wpList_want hgd fun _ hK => wp_load_at ty x ho ad hx cs d hc hu hd hi (hK _ _ h)
theorem run_storeVar_at (w : World) (g k : Nat) (t ty : TypeId) (cur cs : List Value) (hg : At w g t cur.toArray) (hi : (P.info? ty).map (·.size) = some cs.length)
    (hk : k + cs.length ≤ cur.length) (h1 : ∀ v ∈ cs, v.oneCell' = true) :
    (storeVar ty ⟨g, k, none⟩ (.agg cs.toArray)).run P w = .ok () (w.setRow g (cur.take k ++ cs ++ cur.drop (k + cs.length)).toArray) := by
  have := run_storeCells_at P g k t cs 0 cur.toArray w hg (by simpa using hk) h1
  cases hq : P.info? ty with
  | none => simp [hq] at hi
  | some i =>
    have hs : cs.length = i.size := by simp [hq] at hi; omega
    simp only [Nat.add_zero] at this
    simp [storeVar, sizeOf, typeInfo, hq, Value.cells, hs]
    rw [hs] at this
    simpa using this
theorem wp_store_at (ty : TypeId) (x y : Operand) (ho : o.op = .store ty x y) (g k : Nat) (cs : List Value) (hx : a.eval x = .pointer (some ⟨g, k, none⟩)) (hy : a.eval y = .agg cs.toArray)
    (t : TypeId) (cur : List Value) (hg : At w g t cur.toArray) (hi : (P.info? ty).map (·.size) = some cs.length) (hk : k + cs.length ≤ cur.length) (h1 : ∀ v ∈ cs, v.oneCell' = true)
    (h : ∀ w', At w' g t (cur.take k ++ cs ++ cur.drop (k + cs.length)).toArray → Fr [g] w w' → K (a.put o.dst undef) w') : o.wp P a w K Q := by
  unfold Oper.wp execOp
  simp only [ho, hx, hy, Instr.storeAt, Instr.sureAddr, Sem.run_bind, Sem.run_pure, Result.andThen_ok, run_storeVar_at w g k t ty cur cs hg hi hk h1]
  exact h _ (setRow_heap w g _ _ t (0, 0) hg) (Fr.setRow w g _)
theorem wpList_store_at (hgd : Region.wanted o (yielded ops a.tmps) = true) (ty : TypeId) (x y : Operand) (ho : o.op = .store ty x y) (g k : Nat) (cs : List Value) (hx : a.eval x = .pointer (some ⟨g, k, none⟩)) (hy : a.eval y = .agg cs.toArray)
    (t : TypeId) (cur : List Value) (hg : At w g t cur.toArray) (hi : (P.info? ty).map (·.size) = some cs.length) (hk : k + cs.length ≤ cur.length) (h1 : ∀ v ∈ cs, v.oneCell' = true)
    (h : ∀ w', At w' g t (cur.take k ++ cs ++ cur.drop (k + cs.length)).toArray → Fr [g] w w' → wpList P ops Q rest (a.put o.dst undef) w') : wpList P ops Q (o :: rest) a w :=
  wpList_want hgd fun _ hK => wp_store_at ty x y ho g k cs hx hy t cur hg hi hk h1 (fun w' h1 h2 => hK _ _ (h w' h1 h2))
/-- The whole of a block, stored anew. -/
theorem wpList_store_all (hgd : o.guard = none) (ty : TypeId) (x y : Operand) (ho : o.op = .store ty x y) (g : Nat) (cs : Array Value) (hx : a.eval x = .pointer (some ⟨g, 0, none⟩)) (hy : a.eval y = .agg cs)
    (t : TypeId) (cur : Array Value) (hg : At w g t cur) (hi : (P.info? ty).map (·.size) = some cs.size) (hk : cur.size = cs.size) (h1 : cs.all (·.oneCell') = true)
    (h : ∀ w', At w' g t cs → Fr [g] w w' → wpList P ops Q rest (a.put o.dst undef) w') : wpList P ops Q (o :: rest) a w :=
  wpList_store_row hgd ty x y ho g cs hx hy t cur hg hi hk h1 (h _ (setRow_heap w g _ _ t (0, 0) hg) (Fr.setRow w g _))
theorem wpList_load_all (hgd : Region.wanted o (yielded ops a.tmps) = true) (ty : TypeId) (x : Operand) (ho : o.op = .load ty x) (g : Nat) (hx : a.eval x = .pointer (some ⟨g, 0, none⟩)) (t : TypeId) (cs : Array Value) (d : TypeDesc) (hg : At w g t cs)
    (hu : P.underlying ty = some d) (hd : (match d with | .struct _ | .array _ _ => true | _ => false) = true) (hi : (P.info? ty).map (·.size) = some cs.size)
    (h : wpList P ops Q rest (a.put o.dst (.agg cs)) w) : wpList P ops Q (o :: rest) a w :=
  wpList_want hgd fun _ hK => wp_load_row ty x ho g hx t cs (0, 0) d hg hu hd hi (hK _ _ h)
end
end Go.Proofs.YthjbnbimfpbccaaGreatDoor
/-
  A region that draws its order, under a condition S on the world that need not hold behind some last operations Z; by hand, operation by operation. Condition: each operation that is taken first stands ahead of all of Z.
-/

set_option linter.unusedVariables false
namespace Go.Proofs.YthjbnbimfpbccaaGreatDoor
open Go.ChangeShapes Go.WideShapes Go.ChangeAt Go.RowKit
section
variable {P : Program} {ops : Array Oper} {Q : Exit → Act → World → Prop} {md : Region.Mode} {S : World → Prop} {Z : List Nat}
/-- Whatever order is picked; S holds behind each operation but those of Z. -/
def wpAnyL (P : Program) (md : Region.Mode) (ops : Array Oper) (Q : Exit → Act → World → Prop) (S : World → Prop) (Z : List Nat) : Nat → Array Bool → Act → World → Prop
  | 0, listed, a, w => Region.ready md ops listed = [] ∧ Q .normal a w
  | fuel + 1, listed, a, w =>
    (Region.ready md ops listed = [] → Q .normal a w) ∧
    ∀ i ∈ Region.ready md ops listed, wpOp P ops Q i (fun a' w' => (i ∉ Z → S w') ∧ wpAnyL P md ops Q S Z fuel (listed.setIfInBounds i true) a' w') a w
theorem wpAny_of_L : ∀ (fuel : Nat) (listed : Array Bool) (a : Act) (w : World), wpAnyL P md ops Q S Z fuel listed a w → wpAny P md ops Q fuel listed a w
  | 0, _, _, _, h => h
  | fuel + 1, _, _, _, h => ⟨h.1, fun i hi => wpOp_mono (fun a' w' h' => wpAny_of_L fuel _ a' w' h'.2) (h.2 i hi)⟩
/-- Operations that wait for i, directly or through others. -/
def waits (md : Region.Mode) (ops : Array Oper) (i : Nat) : List Nat := (List.range ops.size).foldl (fun D y => if ((ops[y]?.map fun o => o.after.any fun e => Region.binds md e && (e.on == i || D.contains e.on)).getD false) = true then y :: D else D) []
/-- D waits for i, is not listed yet, and holds all of Z. -/
def waitOk (md : Region.Mode) (ops : Array Oper) (listed : Array Bool) (Z : List Nat) (i : Nat) (D : List Nat) : Bool :=
  Z.all (fun z => D.contains z) && D.all fun y => (!listed.getD y true) && ((ops[y]?.map fun o => o.after.any fun e => Region.binds md e && (e.on == i || D.contains e.on)).getD false)
def Closed (md : Region.Mode) (ops : Array Oper) (listed : Array Bool) (Z : List Nat) (i : Nat) (D : List Nat) : Prop :=
  (∀ z ∈ Z, z ∈ D) ∧ ∀ y ∈ D, listed.getD y true = false ∧ ∃ o, ops[y]? = some o ∧ ∃ e ∈ o.after, Region.binds md e = true ∧ (e.on = i ∨ e.on ∈ D)
theorem closed_of {listed : Array Bool} {i : Nat} {D : List Nat} (h : waitOk md ops listed Z i D = true) : Closed md ops listed Z i D := by
  unfold waitOk at h
  simp only [Bool.and_eq_true, List.all_eq_true, List.contains_iff_mem, Bool.not_eq_true'] at h
  refine ⟨fun z hz => by simpa using h.1 z hz, fun y hy => ?_⟩
  obtain ⟨h1, h2⟩ := h.2 y hy
  refine ⟨h1, ?_⟩
  cases ho : ops[y]? with
  | none => rw [ho] at h2; simp at h2
  | some o =>
    rw [ho] at h2
    simp only [Option.map_some, Option.getD_some] at h2
    rw [Array.any_eq_true] at h2
    obtain ⟨k, hk, h3⟩ := h2
    simp only [Bool.and_eq_true, Bool.or_eq_true, beq_iff_eq] at h3
    exact ⟨o, rfl, o.after[k], Array.getElem_mem hk, h3.1, by simpa using h3.2⟩
theorem Closed.not_ready {listed : Array Bool} {i : Nat} {D : List Nat} (h : Closed md ops listed Z i D) (hi : i ∈ Region.ready md ops listed) {j : Nat} (hj : j ∈ Region.ready md ops listed) : j ∉ D := fun hD => by
  obtain ⟨_, o, ho, e, he, hb, hon⟩ := h.2 j hD
  obtain ⟨hjun, oj, hoj, hall⟩ := mem_ready.1 hj
  rw [ho] at hoj
  injection hoj with hoj
  subst hoj
  have h1 := hall e he hb
  have key : ∀ k, listed.getD k true = false → listed[k]?.getD true = true → False := fun k a b => by
    rw [Array.getD_eq_getD_getElem?] at a
    rw [a] at b; cases b
  rcases hon with hon | hon
  · have h0 := (mem_ready.1 hi).1
    rw [← hon] at h0
    rcases Nat.lt_or_ge e.on listed.size with h' | h'
    · simp [h'] at h0 h1; rw [h0] at h1; cases h1
    · simp [Array.getElem?_eq_none h'] at h1
  · have h0 := (h.2 _ hon).1
    rcases Nat.lt_or_ge e.on listed.size with h' | h'
    · simp [h'] at h0 h1; rw [h0] at h1; cases h1
    · simp [Array.getElem?_eq_none h'] at h1
theorem wpAnyL_first {i : Nat} {oi : Oper} {v : Value} {D : List Nat} (hi : ops[i]? = some oi) (hsel : ∀ (j : Nat) (o : Oper) cs b, ops[j]? = some o → o.op ≠ .select cs b)
    (hQ : ∀ c a w, Q (.panic c) (a.put oi.dst v) w → Q (.panic c) a w) (hiZ : i ∉ D) :
    ∀ (fuel : Nat) (listed : Array Bool) (a : Act) (w : World),
      (∀ j oj, ops[j]? = some oj → j ≠ i → listed.getD j true = false → (∀ e ∈ oj.after, Region.binds md e = true → e.on ≠ i) → oi.apart ops oj = true) →
      i ∈ Region.ready md ops listed → Closed md ops listed Z i D → YieldsIf P ops S oi v a → S w →
      wpAnyL P md ops Q S Z fuel (listed.setIfInBounds i true) (a.put oi.dst v) w → wpAnyL P md ops Q S Z (fuel + 1) listed a w := by
  intro fuel
  induction fuel with
  | zero =>
    intro listed a w _ hr _ hy hS H
    refine ⟨fun h => (by rw [h] at hr; cases hr), fun j hj => ?_⟩
    by_cases hji : j = i
    · subst hji; exact hy.wpOp hi hS ⟨fun _ => hS, H⟩
    · have := ready_mono hj hji
      rw [H.1] at this
      cases this
  | succ fuel ih =>
    intro listed a w hfree hr hC hy hS H
    refine ⟨fun h => (by rw [h] at hr; cases hr), fun j hj => ?_⟩
    by_cases hji : j = i
    · subst hji; exact hy.wpOp hi hS ⟨fun _ => hS, H⟩
    · have h1 := H.2 j (ready_mono hj hji)
      have hjD := hC.not_ready hr hj
      have hjZ : j ∉ Z := fun h => hjD (hC.1 j h)
      obtain ⟨hjun, oj, hoj, hall⟩ := mem_ready.1 hj
      have hnot : ∀ e ∈ oj.after, Region.binds md e = true → e.on ≠ i := fun e he hb heq => by
        have h1 := hall e he hb
        have h0 := (mem_ready.1 hr).1
        rw [heq] at h1
        rcases Nat.lt_or_ge i listed.size with h' | h'
        · simp [h'] at h0 h1; rw [h0] at h1; cases h1
        · simp [Array.getElem?_eq_none h'] at h1
      have h2 := wpOp_putIf hoj (hfree j oj hoj hji hjun hnot) (fun cs b => hsel i oi cs b hi) (fun cs b => hsel j oj cs b hoj) hQ hy h1
      have hfree' : ∀ k ok, ops[k]? = some ok → k ≠ i → (listed.setIfInBounds j true).getD k true = false →
          (∀ e ∈ ok.after, Region.binds md e = true → e.on ≠ i) → oi.apart ops ok = true := fun k ok hk hki hun hno => by
        refine hfree k ok hk hki ?_ hno
        by_cases hjk : j = k
        · subst hjk; exact hjun
        · rw [getD_set_ne true hjk] at hun; exact hun
      have hC' : Closed md ops (listed.setIfInBounds j true) Z i D := ⟨hC.1, fun y hy => by
        obtain ⟨h0, h3⟩ := hC.2 y hy
        refine ⟨?_, h3⟩
        rw [getD_set_ne true (fun e => hjD (by rw [e]; exact hy))]; exact h0⟩
      refine wpOp_mono (fun a' w' h3 => ⟨fun _ => h3.2.1 hjZ, ih (listed.setIfInBounds j true) a' w' hfree' (ready_mono hr (Ne.symm hji)) hC' h3.1 (h3.2.1 hjZ) ?_⟩) h2
      rw [Array.setIfInBounds_comm _ _ hji]
      exact h3.2.2
theorem at_drop {ops : Array Oper} {i : Nat} {oi : Oper} {rest : List Oper} (h : ops.toList.drop i = oi :: rest) : ops[i]? = some oi := by
  have : (ops.toList.drop i)[0]? = some oi := by rw [h]; rfl
  rw [List.getElem?_drop, Nat.add_zero] at this
  simpa using this
/-- Take number i first. -/
theorem wpAnyL_take {i : Nat} {oi : Oper} {rest : List Oper} {v : Value} {fuel : Nat} {listed : Array Bool} {a : Act} {w : World} (hi : ops.toList.drop i = oi :: rest)
    (hs : (Region.noSelect ops && (Region.free md ops listed i && ((Region.ready md ops listed).contains i && (waitOk md ops listed Z i (waits md ops i) && !(waits md ops i).contains i)))) = true)
    (hQ : ∀ c a w, Q (.panic c) (a.put oi.dst v) w → Q (.panic c) a w) (hy : YieldsIf P ops S oi v a) (hS : S w)
    (h : wpAnyL P md ops Q S Z fuel (listed.setIfInBounds i true) (a.put oi.dst v) w) : wpAnyL P md ops Q S Z (fuel + 1) listed a w := by
  simp only [Bool.and_eq_true, Bool.not_eq_true'] at hs
  obtain ⟨h1, h2, h3, h4, h5⟩ := hs
  exact wpAnyL_first (D := waits md ops i) (at_drop hi) (Region.noSelect_spec h1) hQ (fun h => by rw [List.contains_iff_mem.2 h] at h5; cases h5) fuel listed a w (Region.free_spec (at_drop hi) h2) (by simpa using h3) (closed_of h4) hy hS h
theorem wpAnyL_norm {fuel : Nat} {listed : Array Bool} {a a' : Act} {w : World} (ha : a = a') (h : wpAnyL P md ops Q S Z fuel listed a' w) : wpAnyL P md ops Q S Z fuel listed a w := ha ▸ h
def AllReadyL (P : Program) (md : Region.Mode) (ops : Array Oper) (Q : Exit → Act → World → Prop) (S : World → Prop) (Z : List Nat) (fuel : Nat) (listed : Array Bool) (a : Act) (w : World) (rs : List Nat) : Prop :=
  ∀ i ∈ rs, wpOp P ops Q i (fun a' w' => (i ∉ Z → S w') ∧ wpAnyL P md ops Q S Z fuel (listed.setIfInBounds i true) a' w') a w
theorem AllReadyL.nil {fuel : Nat} {listed : Array Bool} {a : Act} {w : World} : AllReadyL P md ops Q S Z fuel listed a w [] := fun _ h => by cases h
theorem AllReadyL.cons {fuel : Nat} {listed : Array Bool} {a : Act} {w : World} {i : Nat} {o : Oper} {rest : List Oper} {rs : List Nat} (ho : ops.toList.drop i = o :: rest)
    (h : ∀ K' : Act → World → Prop, Shut (∀ a w, (i ∉ Z → S w) → ((i ∉ Z → S w) → wpAnyL P md ops Q S Z fuel (listed.setIfInBounds i true) a w) → K' a w) → if Region.wanted o (yielded ops a.tmps) = true then Oper.wp P o a w K' Q else K' (a.put o.dst undef) w)
    (hs : AllReadyL P md ops Q S Z fuel listed a w rs) : AllReadyL P md ops Q S Z fuel listed a w (i :: rs) := fun j hj => by
  rcases List.mem_cons.1 hj with rfl | hj
  · exact wpOp_step (at_drop ho) (fun K' hK => h K' (fun a w hS hW => hK a w ⟨hS, hW hS⟩))
  · exact hs j hj
theorem wpAnyL_ready {rs : List Nat} {fuel : Nat} {listed : Array Bool} {a : Act} {w : World} (hr : Region.ready md ops listed = rs) (hne : rs ≠ [])
    (h : AllReadyL P md ops Q S Z fuel listed a w rs) : wpAnyL P md ops Q S Z (fuel + 1) listed a w := ⟨fun h0 => absurd (hr ▸ h0) hne, hr ▸ h⟩
theorem wpAnyL_done {listed : Array Bool} {a : Act} {w : World} (hr : Region.ready md ops listed = []) (h : Q .normal a w) : ∀ fuel, wpAnyL P md ops Q S Z fuel listed a w
  | 0 => ⟨hr, h⟩
  | _ + 1 => ⟨fun _ => h, by rw [hr]; simp⟩
theorem wp_region_L {id : Nat} {a : Act} {w : World} (S : World → Prop) (Z : List Nat) (hm : P.follows .mixedOrders = true) (hS : S w.drew)
    (h : S w.drew → wpAnyL P .any ops Q S Z ops.size (Array.replicate ops.size false) a w.drew) : (Code.region id ops true).wp P Q a w :=
  wp_region_any hm (wpAny_of_L _ _ _ _ (h hS))
theorem yields_load_at {o : Oper} {a : Act} (ty : TypeId) (x : Operand) (ho : o.op = .load ty x) (ad : Addr) (hx : a.eval x = .pointer (some ad)) (cs : List Value) (d : TypeDesc)
    (hc : ∀ W, S W → ∀ j v, cs[j]? = some v → W.cell? (ad.add j) = some v)
    (hu : P.underlying ty = some d) (hd : (match d with | .struct _ | .array _ _ => true | _ => false) = true) (hi : (P.info? ty).map (·.size) = some cs.length) (hw : Region.wanted o (yielded ops a.tmps) = true) : YieldsIf P ops S o (.agg cs.toArray) a :=
  Or.inl ⟨hw, fun w hS => by
    unfold execOp
    simp only [ho, hx, Instr.loadAt, Instr.sureAddr, Sem.run_bind, Sem.run_pure, Result.andThen_ok, run_loadVar_at w ty ad cs d (hc w hS) hu hd hi]⟩
theorem wp_buildSl {K : Act → World → Prop} {Q : Exit → Act → World → Prop} {o : Oper} {a : Act} {w : World} (t len : Nat) (parts : Array (Nat × Operand)) (lit : Array (Nat × Value)) (v : Value) (w' : World)
    (hr : (Instr.buildSlice t len lit).run P w = .ok v w') (ho : o.op = .buildSlice t len parts) (hp : (parts.map fun (i, x) => (i, a.eval x)) = lit) (h : K (a.put o.dst v) w') : o.wp P a w K Q := by
  unfold Oper.wp execOp
  simp only [ho, hp, Sem.run_bind, hr, Result.andThen_ok, Sem.run_pure]
  exact h
end
end Go.Proofs.YthjbnbimfpbccaaGreatDoor
/-
  Lists of regions in memory, two cells each; copies between such lists. Condition: the places lie within the blocks.
-/

set_option linter.unusedVariables false
namespace Go.Proofs.YthjbnbimfpbccaaGreatDoor
open Go.ChangeShapes Go.WideShapes Go.ChangeAt Go.RowKit
def rgv (l : List (Nat × Nat)) : List Value := l.flatMap fun r => [.int .u32 r.1, .int .u32 r.2]
theorem rgv_len : ∀ l : List (Nat × Nat), (rgv l).length = l.length * 2
  | [] => rfl
  | r :: l => by have := rgv_len l; unfold rgv at this ⊢; rw [List.flatMap_cons, List.length_append, this]; simp; omega
theorem rgv_append (a b : List (Nat × Nat)) : rgv (a ++ b) = rgv a ++ rgv b := by unfold rgv; exact List.flatMap_append
theorem rgv_cons (r : Nat × Nat) (b : List (Nat × Nat)) : rgv (r :: b) = [.int .u32 r.1, .int .u32 r.2] ++ rgv b := by unfold rgv; rw [List.flatMap_cons]
theorem rgv_take (l : List (Nat × Nat)) (k : Nat) : rgv (l.take k) = (rgv l).take (k * 2) := by
  induction l generalizing k with
  | nil => simp [rgv]
  | cons r l ih =>
    cases k with
    | zero => simp [rgv]
    | succ k => rw [List.take_succ_cons, rgv_cons, rgv_cons, ih, show (k + 1) * 2 = k * 2 + 1 + 1 by omega]; rfl
theorem rgv_drop (l : List (Nat × Nat)) (k : Nat) : rgv (l.drop k) = (rgv l).drop (k * 2) := by
  induction l generalizing k with
  | nil => simp [rgv]
  | cons r l ih =>
    cases k with
    | zero => simp [rgv]
    | succ k => rw [List.drop_succ_cons, rgv_cons, ih, show (k + 1) * 2 = k * 2 + 1 + 1 by omega]; rfl
theorem rgv_one (l : List (Nat × Nat)) : ∀ v ∈ rgv l, v.oneCell' = true := fun v hv => by
  unfold rgv at hv
  obtain ⟨r, _, h⟩ := List.mem_flatMap.1 hv
  simp at h
  rcases h with rfl | rfl <;> rfl
theorem rgv_get (l : List (Nat × Nat)) (i : Nat) (r : Nat × Nat) (h : l[i]? = some r) : (rgv l)[i * 2]? = some (.int .u32 r.1) ∧ (rgv l)[i * 2 + 1]? = some (.int .u32 r.2) := by
  have hi := (List.getElem?_eq_some_iff.1 h).1
  have e : l.drop i = r :: l.drop (i + 1) := by rw [List.drop_eq_getElem_cons hi]; congr 1; rw [List.getElem?_eq_getElem hi] at h; injection h
  have e2 := rgv_drop l i
  rw [e, rgv_cons] at e2
  have h0 : ((rgv l).drop (i * 2))[0]? = some (.int .u32 r.1) := by rw [← e2]; rfl
  have h1 : ((rgv l).drop (i * 2))[1]? = some (.int .u32 r.2) := by rw [← e2]; rfl
  rw [List.getElem?_drop] at h0 h1
  exact ⟨h0, h1⟩
theorem infoRg : (Tryz.prog.info? 45).map (fun i => (i.zero, i.size, i.bytes)) = some (some (.agg #[.int .u32 0, .int .u32 0]), 2, 8) := by kernel_rfl
theorem infoRgS : (Tryz.prog.info? 45).map (·.size) = some 2 := by kernel_rfl
section
variable {P : Program}
theorem run_copy_min (w : World) (dT sT ty elem : TypeId) (s g o nd ns n dCap : Nat) (hmin : Nat.min ns nd = n) (a : Addr) (sCap : Nat) (cur : Array Value) (t : TypeId) (cs : List Value)
    (hu : P.underlying dT = some (.slice elem)) (hs : (P.info? elem).map (·.size) = some s)
    (hg : w.heap[g]? = some (.cells cur t (0, 0))) (hn : cs.length = n * s)
    (hsrc : ∀ j v, cs[j]? = some v → w.cell? (a.add j) = some v) (hfit : o + cs.length ≤ cur.size) (h1 : ∀ v ∈ cs, v.oneCell' = true) :
    (Builtin.copy_ #[dT, sT] ty #[.slice (some ⟨g, o, none⟩) nd dCap, .slice (some a) ns sCap]).run P w =
      .ok (goInt n) (w.setRow g (cur.toList.take o ++ cs ++ cur.toList.drop (o + cs.length)).toArray) := by
  have hl := run_loadCells_list (P := P) w a cs hsrc
  have hst := run_storeCells_at P g o t cs 0 cur w hg (by simpa using hfit) h1
  cases hq : P.info? elem with
  | none => simp [hq] at hs
  | some i =>
    have hi : i.size = s := by simpa [hq] using hs
    rw [hn] at hl hst
    simp [Builtin.copy_, run_underlying hu, Builtin.lenOf, Builtin.firstCells, sizeOf, typeInfo, hq, hi, hl, hst, hn, hmin]
theorem wp_copy_run {o : Oper} {a : Act} {w : World} {K : Act → World → Prop} {Q : Exit → Act → World → Prop} (d s : Operand) (t t' : TypeId)
    (ho : o.op = .call { callee := .builtin .copy, args := #[d, s], argTypes := #[t, t'] }) (v u : Value) (hd : a.eval d = v) (hs : a.eval s = u) {v' : Value} {w' : World}
    (hr : (Builtin.copy_ #[t, t'] o.type #[v, u]).run P w = .ok v' w') (h : K (a.put o.dst v') w') : o.wp P a w K Q := by
  unfold Oper.wp execOp
  simp only [ho, resolve, invoke, builtin, Sem.run_bind, Sem.run_pure, Result.andThen_ok, List.map_toArray, List.map_cons, List.map_nil, hd, hs, hr]
  exact h
theorem wpList_copy_at {ops : Array Oper} {rest : List Oper} {o : Oper} {a : Act} {w : World} {Q : Exit → Act → World → Prop} (hgd : o.guard = none) (d s : Operand) (t t' : TypeId)
    (ho : o.op = .call { callee := .builtin .copy, args := #[d, s], argTypes := #[t, t'] }) (v u : Value) (hd : a.eval d = v) (hs : a.eval s = u) {v' : Value} {w' : World}
    (hr : (Builtin.copy_ #[t, t'] o.type #[v, u]).run P w = .ok v' w') (h : wpList P ops Q rest (a.put o.dst v') w') : wpList P ops Q (o :: rest) a w :=
  wpList_plain hgd fun K hK => wp_copy_run d s t t' ho v u hd hs hr (hK _ _ h)
end
/-- The block behind a list. -/
theorem rows_open {w : World} {b n : Nat} {v : Value} {xs : List Value} (h : w.ownsRow b 45 2 v n xs) : (v = .slice none 0 0 ∧ n = 0) ∨ ∃ g cap cur, v = .slice (some ⟨g, 0, none⟩) n cap ∧ b ≤ g ∧ At w g 45 cur ∧ n ≤ cap ∧ cap ≤ maxLen ∧ cur.size = cap * 2 ∧ cur.toList.take (n * 2) = xs := h.2
theorem rows_at {w : World} {g n cap : Nat} {cur : Array Value} {xs : List Value} (ha : At w g 45 cur) (ht : cur.toList.take (n * 2) = xs) (k j : Nat) (v : Value) (hv : (xs.drop k)[j]? = some v) : w.cell? ⟨g, k + j, none⟩ = some v := by
  rw [ha.cell]
  rw [List.getElem?_drop, ← ht, List.getElem?_take] at hv
  split at hv
  · simpa using hv
  · cases hv
end Go.Proofs.YthjbnbimfpbccaaGreatDoor
/-
  slices.Insert of one region. Condition: a list of a hundred thousand at most.
-/


set_option linter.unusedVariables false
namespace Go.Proofs.YthjbnbimfpbccaaGreatDoor
open Go.ChangeShapes Go.WideShapes Go.ChangeAt Go.RowKit
def insL (l : List (Nat × Nat)) (i : Nat) (r : Nat × Nat) : List (Nat × Nat) := l.take i ++ r :: l.drop i
theorem insL_len (l : List (Nat × Nat)) (i : Nat) (r : Nat × Nat) (h : i ≤ l.length) : (insL l i r).length = l.length + 1 := by unfold insL; simp; omega
theorem insL_end (l : List (Nat × Nat)) (r : Nat × Nat) : insL l l.length r = l ++ [r] := by unfold insL; simp
theorem put_take (X R : List Value) (k m : Nat) (hm : k + R.length = m) (h : m ≤ X.length) : (X.take k ++ R ++ X.drop m).take m = X.take k ++ R := by
  rw [List.take_append_of_le_length (by rw [List.length_append, List.length_take]; omega), List.take_of_length_le (by rw [List.length_append, List.length_take]; omega)]
theorem put_len (X R : List Value) (k m : Nat) (hm : k + R.length = m) (h : m ≤ X.length) : (X.take k ++ R ++ X.drop m).length = X.length := by
  rw [List.length_append, List.length_append, List.length_take, List.length_drop]; omega
section
variable (w : World) (l : List (Nat × Nat)) (r : Nat × Nat) (q : Nat) (hq : At w q 45 #[.int .u32 r.1, .int .u32 r.2]) (hl : l.length ≤ 100000)
include hq hl
set_option maxHeartbeats 2000000 in
set_option maxRecDepth 100000 in
theorem insert_end (v : Value) (hv : w.ownsRow 0 45 2 v l.length (rgv l)) :
    Calls Tryz.prog 102 #[v, .int .i64 l.length, .slice (some ⟨q, 0, none⟩) 1 1] w fun e w' => ∃ v', e = .returned v' ∧ w'.ownsRow 0 45 2 v' (l.length + 1) (rgv (insL l l.length r)) ∧ Fr v.ownBlock.toList w w' ∧ ∀ g, v'.ownBlock = some g → v.ownBlock = some g ∨ w.heap.size ≤ g := by
  obtain ⟨i0, hi, hz0, hz1, hz2⟩ := info_parts infoRg
  have HQ := Lib.hid hq
  have hnews := Lib.hid fun j u (hu : [Value.int .u32 (r.1 : Int), .int .u32 (r.2 : Int)][j]? = some u) => show w.cell? ((⟨q, 0, none⟩ : Addr).add j) = some u by
    rw [Go.WideShapes.add_plain, Nat.zero_add, hq.cell, List.getElem?_toArray]; exact hu
  have hone := Lib.hid (show ∀ u ∈ [Value.int .u32 (r.1 : Int), .int .u32 (r.2 : Int)], u.oneCell' = true from fun u hu => by simp at hu; rcases hu with rfl | rfl <;> rfl)
  have HE := Lib.hid (show rgv (insL l l.length r) = rgv l ++ [.int .u32 (r.1 : Int), .int .u32 (r.2 : Int)] by rw [insL_end, rgv_append, rgv_cons]; rfl)
  have HV := Lib.hid hv
  obtain ⟨n, hn⟩ : ∃ n, l.length = n := ⟨_, rfl⟩
  rw [hn] at hl HE HV ⊢
  obtain ⟨va, vc, rfl, hvc⟩ := own_slice HV.out
  have hvm := own_len HV.out
  have ho := rows_open HV.out
  have HNE := Lib.hid hn
  clear hq hv hn
  rcases ho with ⟨e1, e2⟩ | ⟨g, cap, cur, e1, -, -, hc1, hc2, -⟩
  · injection e1 with e1 e3 e4
    subst e1 e2 e4
    go_enter Tryz.func102, Tryz.ntmps102
    go_wp2_with (at_builtin; refine wpList_append_own_at _ rfl (.tmp 23) (.tmp 24) 35 rfl 0 45 i0 (.agg #[.int .u32 0, .int .u32 0]) 2 8 Tryz.underlying35 hi hz0 hz1 hz2 rfl (by omega) (.slice none 0 0) 0 (rgv l) rfl HV.out ⟨q, 0, none⟩ 1 1 [.int .u32 (r.1 : Int), .int .u32 (r.2 : Int)] rfl rfl hnews.out hone.out (by unfold maxLen; omega) (by omega) (Nat.zero_le _) ?_; intro v1 w1 hown1 hg1 hnil hat1)
    go_ret
    exact ⟨v1, rfl, by rw [HE.out]; exact hown1, Fr.grown hg1, fun g hg => by rcases hat1 with h | h <;> rw [h] at hg; exact .inl hg; injection hg with hg; exact .inr (by omega)⟩
  · injection e1 with e1 e3 e4
    subst e1 e4
    unfold maxLen at hc2
    by_cases hcn : vc = n
    · subst hcn
      go_enter Tryz.func102, Tryz.ntmps102
      go_wp2_with (at_builtin; refine wpList_append_own_at _ rfl (.tmp 23) (.tmp 24) 35 rfl 0 45 i0 (.agg #[.int .u32 0, .int .u32 0]) 2 8 Tryz.underlying35 hi hz0 hz1 hz2 rfl (by omega) (.slice (some ⟨g, 0, none⟩) vc vc) vc (rgv l) rfl HV.out ⟨q, 0, none⟩ 1 1 [.int .u32 (r.1 : Int), .int .u32 (r.2 : Int)] rfl rfl hnews.out hone.out (by unfold maxLen; omega) (by omega) (Nat.zero_le _) ?_; intro v1 w1 hown1 hg1 hnil hat1)
      go_ret
      exact ⟨v1, rfl, by rw [HE.out]; exact hown1, Fr.grown hg1, fun g' hg => by rcases hat1 with h | h <;> rw [h] at hg; exact .inl hg; injection hg with hg; exact .inr (by omega)⟩
    · go_enter Tryz.func102, Tryz.ntmps102
      go_wp2_with (at_builtin; refine wpList_append_own_at _ rfl (.tmp 23) (.tmp 24) 35 rfl 0 45 i0 (.agg #[.int .u32 0, .int .u32 0]) 2 8 Tryz.underlying35 hi hz0 hz1 hz2 rfl (by omega) (.slice (some ⟨g, 0, none⟩) n vc) n (rgv l) rfl HV.out ⟨q, 0, none⟩ 1 1 [.int .u32 (r.1 : Int), .int .u32 (r.2 : Int)] rfl rfl hnews.out hone.out (by unfold maxLen; omega) (by omega) (Nat.zero_le _) ?_; intro v1 w1 hown1 hg1 hnil hat1)
      go_ret
      exact ⟨v1, rfl, by rw [HE.out]; exact hown1, Fr.grown hg1, fun g' hg => by rcases hat1 with h | h <;> rw [h] at hg; exact .inl hg; injection hg with hg; exact .inr (by omega)⟩
set_option maxHeartbeats 4000000 in
set_option maxRecDepth 100000 in
theorem insert_grow (g : Nat) (i : Nat) (cur : Array Value) (hA : At w g 45 cur) (ht : cur.toList.take (l.length * 2) = rgv l) (hin : i < l.length) :
    Calls Tryz.prog 102 #[.slice (some ⟨g, 0, none⟩) l.length l.length, .int .i64 i, .slice (some ⟨q, 0, none⟩) 1 1] w fun e w' => ∃ v', e = .returned v' ∧ w'.ownsRow 0 45 2 v' (l.length + 1) (rgv (insL l i r)) ∧ Fr [] w w' ∧ ∀ g, v'.ownBlock = some g → w.heap.size ≤ g := by
  obtain ⟨i0, hi, hz0, hz1, hz2⟩ := info_parts infoRg
  have HQ := Lib.hid hq
  have HA := Lib.hid hA
  have hone : ∀ u ∈ [Value.int .u32 (r.1 : Int), .int .u32 (r.2 : Int)], u.oneCell' = true := fun u hu => by simp at hu; rcases hu with rfl | rfl <;> rfl
  have hcl := rgv_len l
  have h1c := rgv_one l
  obtain ⟨n, hn⟩ : ∃ n, l.length = n := ⟨_, rfl⟩
  rw [hn] at hl hin ht hcl ⊢
  have htk : (rgv (l.take i)).length = i * 2 := by rw [rgv_len, List.length_take]; omega
  have hdl : (rgv (l.drop i)).length = (n - i) * 2 := by rw [rgv_len, List.length_drop]; omega
  have hold : (Builtin.firstCells i0.size i (.slice (some ⟨g, 0, none⟩) i n)).run Tryz.prog w.drew = .ok (rgv (l.take i)).toArray w.drew := by
    rw [hz1]
    refine run_firstCells_some w.drew 2 i ⟨g, 0, none⟩ i n (rgv (l.take i)) (by rw [htk]) (fun j v hj => ?_)
    rw [Addr.add_lit]
    rw [rgv_take, List.getElem?_take] at hj
    split at hj
    · exact rows_at (w := w.drew) (n := n) (cap := n) (hA.hp rfl) ht 0 j v (by simpa using hj)
    · cases hj
  have hkk : (n : Int) + 1 - (i : Int) = ((n + 1 - i : Nat) : Int) := by omega
  have hik : i + (n + 1 - i) = n + 1 := by omega
  have hrz : ∀ ty, (Builtin.append_ #[35, 3] ty #[.slice (some ⟨g, 0, none⟩) i n, .int .i64 ((n : Int) + 1 - (i : Int))]).run Tryz.prog w =
      .ok (.slice (some ⟨w.heap.size, 0, none⟩) (n + 1) (grownCap w (n + 1) n 45)) (w.drew.alloc (.cells ((rgv (l.take i)).toArray ++ Builtin.zeroCells #[.int .u32 0, .int .u32 0] (n + 1 - i) ++ Builtin.zeroCells #[.int .u32 0, .int .u32 0] (grownCap w (n + 1) n 45 - (n + 1))) 45)) := fun ty => by
    have h := Lib.run_append_grow_zeros w 35 3 ty 45 i0 _ .i64 .i64 Tryz.underlying35 Tryz.underlying3 hi hz0 (some ⟨g, 0, none⟩) i n (rgv (l.take i)) hold (n + 1 - i) (by omega) (by omega) (by omega) (by omega) (by rw [hz2]; omega) (by rw [hz2, hik]; exact growslice_fits (by omega) (by omega))
    rw [hik] at h
    rw [hkk]
    exact h
  obtain ⟨G, hG⟩ : ∃ G, G = grownCap w (n + 1) n 45 := ⟨_, rfl⟩
  have hGn : n + 1 ≤ G := by rw [hG]; exact grownCap_ge w _ _ _
  have hG63 : G ≤ 9223372036854775807 := by
    have := grownCap_le_maxLen w (n + 1) n 45 (by unfold maxLen; omega)
    rw [← hG] at this
    unfold maxLen at this
    omega
  obtain ⟨ROW, hROW⟩ : ∃ ROW : Array Value, ROW = (rgv (l.take i)).toArray ++ Builtin.zeroCells #[.int .u32 0, .int .u32 0] (n + 1 - i) ++ Builtin.zeroCells #[.int .u32 0, .int .u32 0] (G - (n + 1)) := ⟨_, rfl⟩
  rw [← hG, ← hROW] at hrz
  have hzs : ∀ k, (Builtin.zeroCells #[Value.int .u32 0, .int .u32 0] k).size = k * 2 := fun k => by
    rw [size_zeroCells]; rfl
  have hRs : ROW.size = G * 2 := by rw [hROW, Array.size_append, Array.size_append, hzs, hzs, List.size_toArray, htk]; omega
  have hRt : ROW.toList.take (i * 2) = rgv (l.take i) := by
    rw [hROW, Array.append_assoc, Array.toList_append, List.take_append_of_le_length (by simp [htk]), List.take_of_length_le (by simp [htk])]
  obtain ⟨W1, hW1⟩ : ∃ W1, W1 = w.drew.alloc (.cells ROW 45) := ⟨_, rfl⟩
  have F1 : Fr [] w W1 := by rw [hW1]; exact (Fr.refl [] w).drew.alloc _
  have A1 : At W1 w.heap.size 45 ROW := by rw [hW1]; exact At.new w.drew _ _
  rw [← hW1] at hrz
  clear hW1 hROW hG hold
  have hneq : q ≠ w.heap.size := by have := HQ.out.lt; omega
  have hneg : g ≠ w.heap.size := by have := HA.out.lt; omega
  have hrow : ROW.toList.length = G * 2 := by rw [Array.length_toList]; exact hRs
  obtain ⟨C2, hC2⟩ : ∃ C : List Value, C = ROW.toList.take (i * 2) ++ [.int .u32 (r.1 : Int), .int .u32 (r.2 : Int)] ++ ROW.toList.drop (i * 2 + 2) := ⟨_, rfl⟩
  have hC2l : C2.length = G * 2 := by rw [hC2, put_len ROW.toList [.int .u32 (r.1 : Int), .int .u32 (r.2 : Int)] (i * 2) (i * 2 + 2) rfl (by rw [hrow]; omega), hrow]
  have hC2t : C2.take ((i + 1) * 2) = rgv (l.take i) ++ [.int .u32 (r.1 : Int), .int .u32 (r.2 : Int)] := by
    rw [hC2, show (i + 1) * 2 = i * 2 + 2 by omega, put_take ROW.toList [.int .u32 (r.1 : Int), .int .u32 (r.2 : Int)] (i * 2) (i * 2 + 2) rfl (by rw [hrow]; omega), hRt]
  have hcpA : ∀ ty dc, (Builtin.copy_ #[35, 35] ty #[.slice (some ⟨w.heap.size, i * 2, none⟩) (n + 1 - i) dc, .slice (some ⟨q, 0, none⟩) 1 1]).run Tryz.prog W1 = .ok (goInt 1) (W1.setRow w.heap.size C2.toArray) := fun ty dc => by
    rw [hC2]
    exact run_copy_min W1 _ _ ty 45 2 w.heap.size (i * 2) (n + 1 - i) 1 1 dc (by simp only [Nat.min_def]; split <;> omega) ⟨q, 0, none⟩ 1 ROW 45 [.int .u32 (r.1 : Int), .int .u32 (r.2 : Int)] Tryz.underlying35 infoRgS A1 rfl
      (fun j v hj => by rw [Go.WideShapes.add_plain, Nat.zero_add, (HQ.out.fr F1 (by simp)).cell, List.getElem?_toArray]; exact hj) (by rw [hRs]; simp; omega) hone
  obtain ⟨W2, hW2⟩ : ∃ W, W1.setRow w.heap.size C2.toArray = W := ⟨_, rfl⟩
  have A2 : At W2 w.heap.size 45 C2.toArray := by rw [← hW2]; exact setRow_heap W1 w.heap.size _ _ _ (0, 0) A1
  have F2 : Fr [w.heap.size] W1 W2 := by rw [← hW2]; exact Fr.setRow W1 _ _
  have G2 : At W2 g 45 cur := (HA.out.fr F1 (by simp)).fr F2 (by simpa using hneg)
  rw [hW2] at hcpA
  obtain ⟨C3, hC3⟩ : ∃ C : List Value, C = C2.take ((i + 1) * 2) ++ rgv (l.drop i) ++ C2.drop ((n + 1) * 2) := ⟨_, rfl⟩
  have hC3l : C3.length = G * 2 := by rw [hC3, put_len C2 (rgv (l.drop i)) ((i + 1) * 2) ((n + 1) * 2) (by rw [hdl]; omega) (by omega), hC2l]
  have hC3t : C3.take ((n + 1) * 2) = rgv (insL l i r) := by
    rw [hC3, put_take C2 (rgv (l.drop i)) ((i + 1) * 2) ((n + 1) * 2) (by rw [hdl]; omega) (by omega), hC2t]
    unfold insL
    rw [rgv_append, rgv_cons, List.append_assoc]
  have hcpB : ∀ ty dc sc, (Builtin.copy_ #[35, 35] ty #[.slice (some ⟨w.heap.size, (i + 1) * 2, none⟩) (n + 1 - (i + 1)) dc, .slice (some ⟨g, i * 2, none⟩) (n - i) sc]).run Tryz.prog W2.drew = .ok (goInt ((n - i : Nat) : Int)) (W2.drew.setRow w.heap.size C3.toArray) := fun ty dc sc => by
    have := run_copy_min W2.drew 35 35 ty 45 2 w.heap.size ((i + 1) * 2) (n + 1 - (i + 1)) (n - i) (n - i) dc (by simp only [Nat.min_def]; split <;> omega) ⟨g, i * 2, none⟩ sc C2.toArray 45 (rgv (l.drop i)) Tryz.underlying35 infoRgS A2 hdl
      (fun j v hj => by rw [Go.WideShapes.add_plain]; exact rows_at (w := W2.drew) (n := n) (cap := n) (G2.hp rfl) ht (i * 2) j v (by rw [rgv_drop] at hj; exact hj)) (by rw [hdl, List.size_toArray, hC2l]; omega) (rgv_one _)
    rw [hdl, show (i + 1) * 2 + (n - i) * 2 = (n + 1) * 2 by omega, ← hC3] at this
    exact this
  obtain ⟨W3, hW3⟩ : ∃ W, W2.drew.setRow w.heap.size C3.toArray = W := ⟨_, rfl⟩
  have A3 := Lib.hid (show At W3 w.heap.size 45 C3.toArray by rw [← hW3]; exact setRow_heap W2.drew w.heap.size _ _ _ (0, 0) A2)
  have F3 := Lib.hid (show Fr [] w W3 from (F1.trans (F2.trans (show Fr [w.heap.size] W2 W3 from by rw [← hW3]; exact (Fr.refl [w.heap.size] W2).drew.trans (Fr.setRow W2.drew _ _) (fun k hk => .inl hk)) (fun k hk => .inl hk)) (by simp)))
  rw [hW3] at hcpB
  have HT := Lib.hid hC3t
  have HL3 := Lib.hid hC3l
  have HRZ := Lib.hid hrz
  have HCA := Lib.hid hcpA
  have HCB := Lib.hid hcpB
  clear hW2 hW3 hC2 hC3 hC3t hC3l hC2t hC2l hcpA hcpB hrz A1 A2 F1 F2 G2 hRs hRt hrow hzs htk hdl ht hA hq hcl h1c hone hi hz0 hz1 hz2 hkk
  have hw1 : IntKind.i64.wrap ((i : Int) + 1) = (i : Int) + 1 := by rw [IntKind.wrap_i64]; omega
  have hb1 : (0 : Int) ≤ (i : Int) + 1 := by omega
  have hin' : i ≤ n := by omega
  have htn : ((i : Int) + 1).toNat = i + 1 := by omega
  have hGi : ¬ (G = i) := by omega
  have hGim : ¬ (G = i + 1) := by omega
  have hci : ¬ (n = i) := by omega
  have hci' : ¬ ((i : Int) = (n : Int)) := by omega
  go_enter Tryz.func102, Tryz.ntmps102
  go_upto_region 10 with (at_builtin; refine Lib.wpList_append_run _ rfl (.tmp 34) (.tmp 39) _ _ rfl _ _ rfl rfl _ _ (HRZ.out _) ?_)
  go_upto_region 11 with (refine wpList_copy_at rfl (.tmp 43) (.tmp 44) 35 35 rfl (.slice (some ⟨w.heap.size, i * 2, none⟩) (n + 1 - i) (G - i)) (.slice (some ⟨q, 0, none⟩) 1 1) rfl rfl (HCA.out 3 (G - i)) ?_)
  refine wp_region_L (fun _ => True) [] (by kernel_rfl) trivial (fun hHeld => ?_)
  refine wpAnyL_take (i := 0) (v := ?_) rfl (by kernel_rfl) (fun _ _ _ h => h) (Or.inl ⟨by rfl, ?_⟩) (by assumption) ?_; rotate_left; (focus (intro w hSw; skip; go_simp; (try with_reducible rfl))); (try (refine wpAnyL_norm (by simp only [Act.put, List.setIfInBounds_toArray, List.set_cons_zero, List.set_cons_succ]; rfl) ?_))
  refine wpAnyL_take (i := 1) (v := ?_) rfl (by kernel_rfl) (fun _ _ _ h => h) (Or.inl ⟨by rfl, ?_⟩) (by assumption) ?_; rotate_left; (focus (intro w hSw; skip; go_simp; (try with_reducible rfl))); (try (refine wpAnyL_norm (by simp only [Act.put, List.setIfInBounds_toArray, List.set_cons_zero, List.set_cons_succ]; rfl) ?_))
  refine wpAnyL_take (i := 2) (v := ?_) rfl (by kernel_rfl) (fun _ _ _ h => h) (Or.inl ⟨by rfl, ?_⟩) (by assumption) ?_; rotate_left; (focus (intro w hSw; skip; go_simp; (try with_reducible rfl))); (try (refine wpAnyL_norm (by simp only [Act.put, List.setIfInBounds_toArray, List.set_cons_zero, List.set_cons_succ]; rfl) ?_))
  refine wpAnyL_take (i := 3) (v := ?_) rfl (by kernel_rfl) (fun _ _ _ h => h) (Or.inl ⟨by rfl, ?_⟩) (by assumption) ?_; rotate_left; (focus (intro w hSw; skip; go_simp; (try with_reducible rfl))); (try (refine wpAnyL_norm (by simp only [Act.put, List.setIfInBounds_toArray, List.set_cons_zero, List.set_cons_succ]; rfl) ?_))
  refine wpAnyL_take (i := 4) (v := ?_) rfl (by kernel_rfl) (fun _ _ _ h => h) (Or.inl ⟨by rfl, ?_⟩) (by assumption) ?_; rotate_left; (focus (intro w hSw; (have k1 : (0 : Int) ≤ (i : Int) + 1 ∧ (i : Int) + 1 ≤ (n : Int) + 1 := by omega); (have k2 : i + 1 ≤ n + 1 := by omega); go_simp; (try with_reducible rfl))); (try (refine wpAnyL_norm (by simp only [Act.put, List.setIfInBounds_toArray, List.set_cons_zero, List.set_cons_succ]; rfl) ?_))
  refine wpAnyL_take (i := 5) (v := ?_) rfl (by kernel_rfl) (fun _ _ _ h => h) (Or.inl ⟨by rfl, ?_⟩) (by assumption) ?_; rotate_left; (focus (intro w hSw; skip; go_simp; (try with_reducible rfl))); (try (refine wpAnyL_norm (by simp only [Act.put, List.setIfInBounds_toArray, List.set_cons_zero, List.set_cons_succ]; rfl) ?_))
  refine wpAnyL_take (i := 6) (v := ?_) rfl (by kernel_rfl) (fun _ _ _ h => h) (Or.inl ⟨by rfl, ?_⟩) (by assumption) ?_; rotate_left; (focus (intro w hSw; skip; go_simp; (try with_reducible rfl))); (try (refine wpAnyL_norm (by simp only [Act.put, List.setIfInBounds_toArray, List.set_cons_zero, List.set_cons_succ]; rfl) ?_))
  refine wpAnyL_take (i := 7) (v := ?_) rfl (by kernel_rfl) (fun _ _ _ h => h) (Or.inl ⟨by rfl, ?_⟩) (by assumption) ?_; rotate_left; (focus (intro w hSw; skip; go_simp; (try with_reducible rfl))); (try (refine wpAnyL_norm (by simp only [Act.put, List.setIfInBounds_toArray, List.set_cons_zero, List.set_cons_succ]; rfl) ?_))
  refine wpAnyL_ready (rs := [8]) (by kernel_rfl) (by simp) ?_; refine AllReadyL.cons rfl (fun K hK => ?_) AllReadyL.nil
  rw [if_pos (by rfl)]
  refine wp_copy_run (.tmp 50) (.tmp 53) 35 35 rfl (.slice (some ⟨w.heap.size, (i + 1) * 2, none⟩) (n + 1 - (i + 1)) (G - (i + 1))) (.slice (some ⟨g, i * 2, none⟩) (n - i) (n - i)) (by simp [Act.eval]; done) (by simp [Act.eval]; done) (HCB.out 3 (G - (i + 1)) (n - i)) ?_
  refine hK.out _ _ (fun _ => trivial) (fun hHeld' => ?_); have hHeld := hHeld' (by decide); clear hHeld' hK K; (try (refine wpAnyL_norm (by simp only [Act.put, List.setIfInBounds_toArray, List.set_cons_zero, List.set_cons_succ]; rfl) ?_))
  refine wpAnyL_done (by kernel_rfl) ?_ _
  go_wp2_with fail
  go_ret
  refine ⟨_, rfl, ⟨by rw [rgv_len, insL_len _ _ _ (by omega)]; omega, .inr ⟨w.heap.size, G, C3.toArray, rfl, Nat.zero_le _, A3.out, hGn, by unfold maxLen; omega, by rw [List.size_toArray]; exact HL3.out, HT.out⟩⟩, F3.out, fun g' hg => ?_⟩
  simp [Value.ownBlock] at hg
  omega
set_option maxHeartbeats 4000000 in
set_option maxRecDepth 100000 in
theorem insert_shift (g : Nat) (i c : Nat) (cur : Array Value) (hA : At w g 45 cur) (ht : cur.toList.take (l.length * 2) = rgv l) (hs : cur.size = c * 2) (hin : i < l.length) (hc : l.length + 1 ≤ c) (hcm : c ≤ maxLen) (hne : q ≠ g) :
    Calls Tryz.prog 102 #[.slice (some ⟨g, 0, none⟩) l.length c, .int .i64 i, .slice (some ⟨q, 0, none⟩) 1 1] w fun e w' => ∃ v', e = .returned v' ∧ w'.ownsRow 0 45 2 v' (l.length + 1) (rgv (insL l i r)) ∧ Fr [g] w w' ∧ v'.ownBlock = some g := by
  have HQ := Lib.hid hq
  have hone : ∀ u ∈ [Value.int .u32 (r.1 : Int), .int .u32 (r.2 : Int)], u.oneCell' = true := fun u hu => by simp at hu; rcases hu with rfl | rfl <;> rfl
  have hcl := rgv_len l
  obtain ⟨n, hn⟩ : ∃ n, l.length = n := ⟨_, rfl⟩
  rw [hn] at hl hin ht hcl hc ⊢
  unfold maxLen at hcm
  have hdl : (rgv (l.drop i)).length = (n - i) * 2 := by rw [rgv_len, List.length_drop]; omega
  have htk : (rgv (l.take i)).length = i * 2 := by rw [rgv_len, List.length_take]; omega
  have hov : ∀ lb cb, (callFunc 131 #[.slice (some ⟨q, 0, none⟩) 1 1, .slice (some ⟨g, (i + 1) * 2, none⟩) lb cb]).run Tryz.prog w = .ok (.value (.bool false)) w := fun lb cb => by
    have hsa : w.shape? q = some (45, 2) := by have h := hq; unfold At at h; simp [World.shape?, h]
    have hsb : w.shape? g = some (45, c * 2) := by have h := hA; unfold At at h; simp [World.shape?, h, hs]
    rw [run_callFunc_extern Tryz.func131 (by kernel_rfl) (by kernel_rfl) (by kernel_rfl) (e := Extern.SlicesOverlaps.overlaps #[35, 35] #[4]) (by kernel_rfl),
      Lib.run_overlaps_apart w 35 4 45 Tryz.underlying35 2 (fun w => by kernel_rfl) ⟨q, 0, none⟩ ⟨g, (i + 1) * 2, none⟩ 1 1 lb cb hne 45 45 2 (c * 2) hsa hsb (by omega) (hq.froz 0) (hq.froz 2)]
    rfl
  have hrow : cur.toList.length = c * 2 := by rw [Array.length_toList]; exact hs
  have hRt : cur.toList.take (i * 2) = rgv (l.take i) := by rw [rgv_take, ← ht, List.take_take, Nat.min_eq_left (by omega)]
  obtain ⟨C2, hC2⟩ : ∃ C : List Value, C = cur.toList.take ((i + 1) * 2) ++ rgv (l.drop i) ++ cur.toList.drop ((n + 1) * 2) := ⟨_, rfl⟩
  have hC2l : C2.length = c * 2 := by rw [hC2, put_len cur.toList (rgv (l.drop i)) ((i + 1) * 2) ((n + 1) * 2) (by rw [hdl]; omega) (by omega), hrow]
  have hcpA : ∀ ty dc sc, (Builtin.copy_ #[35, 35] ty #[.slice (some ⟨g, (i + 1) * 2, none⟩) (n - i) dc, .slice (some ⟨g, i * 2, none⟩) (n + 1 - i) sc]).run Tryz.prog w.drew = .ok (goInt ((n - i : Nat) : Int)) (w.drew.setRow g C2.toArray) := fun ty dc sc => by
    have := run_copy_min w.drew 35 35 ty 45 2 g ((i + 1) * 2) (n - i) (n + 1 - i) (n - i) dc (by simp only [Nat.min_def]; split <;> omega) ⟨g, i * 2, none⟩ sc cur 45 (rgv (l.drop i)) Tryz.underlying35 infoRgS hA hdl
      (fun j v hj => by rw [Go.WideShapes.add_plain]; exact rows_at (w := w.drew) (n := n) (cap := n) (hA.hp rfl) ht (i * 2) j v (by rw [rgv_drop] at hj; exact hj)) (by rw [hdl, hs]; omega) (rgv_one _)
    rw [hdl, show (i + 1) * 2 + (n - i) * 2 = (n + 1) * 2 by omega, ← hC2] at this
    exact this
  obtain ⟨W2, hW2⟩ : ∃ W, w.drew.setRow g C2.toArray = W := ⟨_, rfl⟩
  have A2 : At W2 g 45 C2.toArray := by rw [← hW2]; exact setRow_heap w.drew g _ _ _ (0, 0) hA
  have F2 : Fr [g] w W2 := by rw [← hW2]; exact (Fr.refl [g] w).drew.trans (Fr.setRow w.drew _ _) (fun k hk => .inl hk)
  rw [hW2] at hcpA
  obtain ⟨C3, hC3⟩ : ∃ C : List Value, C = C2.take (i * 2) ++ [.int .u32 (r.1 : Int), .int .u32 (r.2 : Int)] ++ C2.drop (i * 2 + 2) := ⟨_, rfl⟩
  have hC3l : C3.length = c * 2 := by rw [hC3, put_len C2 [.int .u32 (r.1 : Int), .int .u32 (r.2 : Int)] (i * 2) (i * 2 + 2) rfl (by omega), hC2l]
  have hcl1 : (cur.toList.take ((i + 1) * 2)).length = (i + 1) * 2 := by rw [List.length_take]; omega
  have hC2a : C2.take (i * 2) = rgv (l.take i) := by
    rw [hC2, List.append_assoc, List.take_append_of_le_length (by omega), List.take_take, Nat.min_eq_left (by omega), hRt]
  have hC2b : (C2.drop (i * 2 + 2)).take ((n - i) * 2) = rgv (l.drop i) := by
    rw [hC2, List.append_assoc, show i * 2 + 2 = (i + 1) * 2 by omega, List.drop_append_of_le_length (by omega), List.drop_of_length_le (by omega), List.nil_append, List.take_append_of_le_length (by omega), List.take_of_length_le (by omega)]
  have hC3t : C3.take ((n + 1) * 2) = rgv (insL l i r) := by
    rw [hC3, hC2a, show (n + 1) * 2 = (rgv (l.take i) ++ [Value.int .u32 (r.1 : Int), Value.int .u32 (r.2 : Int)]).length + (n - i) * 2 by rw [List.length_append, htk]; simp; omega, List.take_length_add_append, hC2b]
    unfold insL
    rw [rgv_append, rgv_cons, List.append_assoc]
  have hcpB : ∀ ty dc, (Builtin.copy_ #[35, 35] ty #[.slice (some ⟨g, i * 2, none⟩) (n + 1 - i) dc, .slice (some ⟨q, 0, none⟩) 1 1]).run Tryz.prog W2 = .ok (goInt 1) (W2.setRow g C3.toArray) := fun ty dc => by
    rw [hC3]
    exact run_copy_min W2 _ _ ty 45 2 g (i * 2) (n + 1 - i) 1 1 dc (by simp only [Nat.min_def]; split <;> omega) ⟨q, 0, none⟩ 1 C2.toArray 45 [.int .u32 (r.1 : Int), .int .u32 (r.2 : Int)] Tryz.underlying35 infoRgS A2 rfl
      (fun j v hj => by rw [Go.WideShapes.add_plain, Nat.zero_add, (HQ.out.fr F2 (by simpa using hne)).cell, List.getElem?_toArray]; exact hj) (by rw [List.size_toArray, hC2l]; simp; omega) hone
  obtain ⟨W3, hW3⟩ : ∃ W, W2.setRow g C3.toArray = W := ⟨_, rfl⟩
  have A3 := Lib.hid (show At W3 g 45 C3.toArray by rw [← hW3]; exact setRow_heap W2 g _ _ _ (0, 0) A2)
  have F3 := Lib.hid (show Fr [g] w W3 from F2.trans (by rw [← hW3]; exact Fr.setRow W2 _ _) (fun k hk => .inl hk))
  rw [hW3] at hcpB
  have HT := Lib.hid hC3t
  have HL3 := Lib.hid hC3l
  have HCA := Lib.hid hcpA
  have HCB := Lib.hid hcpB
  have HOV := Lib.hid hov
  clear hW2 hW3 hC2 hC3 hC3t hC3l hC2a hC2b hC2l hcpA hcpB hov A2 F2 hRt hrow hcl1 htk hdl ht hA hq hcl hone hs
  have hw1 : IntKind.i64.wrap ((i : Int) + 1) = (i : Int) + 1 := by rw [IntKind.wrap_i64]; omega
  have hb1 : (0 : Int) ≤ (i : Int) + 1 := by omega
  have hin' : i ≤ n := by omega
  have htn : ((i : Int) + 1).toNat = i + 1 := by omega
  have hGi : ¬ (c = i) := by omega
  have hGim : ¬ (c = i + 1) := by omega
  have hci' : ¬ ((i : Int) = (n : Int)) := by omega
  have hno : ¬ ((c : Int) < (n : Int) + 1) := by omega
  have hb3 : (i : Int) ≤ (n : Int) + 1 := by omega
  go_enter Tryz.func102, Tryz.ntmps102
  go_upto_region 15 with (simp only [HOV.out])
  refine wp_region_L (fun _ => True) [] (by kernel_rfl) trivial (fun hHeld => ?_)
  refine wpAnyL_take (i := 0) (v := ?_) rfl (by kernel_rfl) (fun _ _ _ h => h) (Or.inl ⟨by rfl, ?_⟩) (by assumption) ?_; rotate_left; (focus (intro w hSw; skip; go_simp; (try with_reducible rfl))); (try (refine wpAnyL_norm (by simp only [Act.put, List.setIfInBounds_toArray, List.set_cons_zero, List.set_cons_succ]; rfl) ?_))
  refine wpAnyL_take (i := 1) (v := ?_) rfl (by kernel_rfl) (fun _ _ _ h => h) (Or.inl ⟨by rfl, ?_⟩) (by assumption) ?_; rotate_left; (focus (intro w hSw; skip; go_simp; (try with_reducible rfl))); (try (refine wpAnyL_norm (by simp only [Act.put, List.setIfInBounds_toArray, List.set_cons_zero, List.set_cons_succ]; rfl) ?_))
  refine wpAnyL_take (i := 2) (v := ?_) rfl (by kernel_rfl) (fun _ _ _ h => h) (Or.inl ⟨by rfl, ?_⟩) (by assumption) ?_; rotate_left; (focus (intro w hSw; skip; go_simp; (try with_reducible rfl))); (try (refine wpAnyL_norm (by simp only [Act.put, List.setIfInBounds_toArray, List.set_cons_zero, List.set_cons_succ]; rfl) ?_))
  refine wpAnyL_take (i := 3) (v := ?_) rfl (by kernel_rfl) (fun _ _ _ h => h) (Or.inl ⟨by rfl, ?_⟩) (by assumption) ?_; rotate_left; (focus (intro w hSw; skip; go_simp; (try with_reducible rfl))); (try (refine wpAnyL_norm (by simp only [Act.put, List.setIfInBounds_toArray, List.set_cons_zero, List.set_cons_succ]; rfl) ?_))
  refine wpAnyL_take (i := 4) (v := ?_) rfl (by kernel_rfl) (fun _ _ _ h => h) (Or.inl ⟨by rfl, ?_⟩) (by assumption) ?_; rotate_left; (focus (intro w hSw; (have k1 : (0 : Int) ≤ (i : Int) + 1 ∧ (i : Int) + 1 ≤ (n : Int) + 1 := by omega); (have k2 : i + 1 ≤ n + 1 := by omega); go_simp; (try with_reducible rfl))); (try (refine wpAnyL_norm (by simp only [Act.put, List.setIfInBounds_toArray, List.set_cons_zero, List.set_cons_succ]; rfl) ?_))
  refine wpAnyL_take (i := 5) (v := ?_) rfl (by kernel_rfl) (fun _ _ _ h => h) (Or.inl ⟨by rfl, ?_⟩) (by assumption) ?_; rotate_left; (focus (intro w hSw; skip; go_simp; (try with_reducible rfl))); (try (refine wpAnyL_norm (by simp only [Act.put, List.setIfInBounds_toArray, List.set_cons_zero, List.set_cons_succ]; rfl) ?_))
  refine wpAnyL_take (i := 6) (v := ?_) rfl (by kernel_rfl) (fun _ _ _ h => h) (Or.inl ⟨by rfl, ?_⟩) (by assumption) ?_; rotate_left; (focus (intro w hSw; skip; go_simp; (try with_reducible rfl))); (try (refine wpAnyL_norm (by simp only [Act.put, List.setIfInBounds_toArray, List.set_cons_zero, List.set_cons_succ]; rfl) ?_))
  refine wpAnyL_take (i := 7) (v := ?_) rfl (by kernel_rfl) (fun _ _ _ h => h) (Or.inl ⟨by rfl, ?_⟩) (by assumption) ?_; rotate_left; (focus (intro w hSw; skip; go_simp; (try with_reducible rfl))); (try (refine wpAnyL_norm (by simp only [Act.put, List.setIfInBounds_toArray, List.set_cons_zero, List.set_cons_succ]; rfl) ?_))
  refine wpAnyL_ready (rs := [8]) (by kernel_rfl) (by simp) ?_; refine AllReadyL.cons rfl (fun K hK => ?_) AllReadyL.nil
  rw [if_pos (by rfl)]
  refine wp_copy_run (.tmp 73) (.tmp 76) 35 35 rfl (.slice (some ⟨g, (i + 1) * 2, none⟩) (n - i) (c - (i + 1))) (.slice (some ⟨g, i * 2, none⟩) (n + 1 - i) (c - i)) (by simp [Act.eval]; done) (by simp [Act.eval]; done) (HCA.out 3 (c - (i + 1)) (c - i)) ?_
  refine hK.out _ _ (fun _ => trivial) (fun hHeld' => ?_); have hHeld := hHeld' (by decide); clear hHeld' hK K; (try (refine wpAnyL_norm (by simp only [Act.put, List.setIfInBounds_toArray, List.set_cons_zero, List.set_cons_succ]; rfl) ?_))
  refine wpAnyL_done (by kernel_rfl) ?_ _
  go_upto_region 17 with (refine wpList_copy_at rfl (.tmp 80) (.tmp 81) 35 35 rfl (.slice (some ⟨g, i * 2, none⟩) (n + 1 - i) (c - i)) (.slice (some ⟨q, 0, none⟩) 1 1) rfl rfl (HCB.out 3 (c - i)) ?_)
  go_wp2_with fail
  go_ret
  exact ⟨_, rfl, ⟨by rw [rgv_len, insL_len _ _ _ (by omega)]; omega, .inr ⟨g, c, C3.toArray, rfl, Nat.zero_le _, A3.out, hc, by unfold maxLen; omega, by rw [List.size_toArray]; exact HL3.out, HT.out⟩⟩, F3.out, rfl⟩
theorem insert_any (v : Value) (hv : w.ownsRow 0 45 2 v l.length (rgv l)) (i : Nat) (hi : i ≤ l.length) (hne : ∀ g, v.ownBlock = some g → g ≠ q) :
    Calls Tryz.prog 102 #[v, .int .i64 i, .slice (some ⟨q, 0, none⟩) 1 1] w fun e w' => ∃ v', e = .returned v' ∧ w'.ownsRow 0 45 2 v' (l.length + 1) (rgv (insL l i r)) ∧ Fr v.ownBlock.toList w w' ∧ ∀ g, v'.ownBlock = some g → v.ownBlock = some g ∨ w.heap.size ≤ g := by
  by_cases he : i = l.length
  · subst he
    exact insert_end w l r q hq hl v hv
  · rcases rows_open hv with ⟨rfl, h0⟩ | ⟨g, c, cur, rfl, -, hA, h1, h2, h3, h4⟩
    · omega
    · by_cases hc : c = l.length
      · subst hc
        refine (insert_grow w l r q hq hl g i cur hA h4 (by omega)).mono ?_
        rintro e w' ⟨v', e1, e2, e3, e4⟩
        exact ⟨v', e1, e2, e3.more (by simp), fun g hg => .inr (e4 g hg)⟩
      · refine (insert_shift w l r q hq hl g i c cur hA h4 h3 (by omega) (by omega) h2 (fun h => hne g rfl h.symm)).mono ?_
        rintro e w' ⟨v', e1, e2, e3, e4⟩
        exact ⟨v', e1, e2, e3, fun g' hg => .inl (by rw [e4] at hg; exact hg)⟩
end
end Go.Proofs.YthjbnbimfpbccaaGreatDoor
/-
  slices.BinarySearchFunc among regions by their places. Condition: a sorted list of a hundred thousand at most.
-/


set_option linter.unusedVariables false
namespace Go.Proofs.YthjbnbimfpbccaaGreatDoor
open Go.ChangeShapes Go.WideShapes Go.ChangeAt Go.RowKit
theorem addf_any (w : World) (a b c d : Nat) (ha : a < 4294967296) (hc : c < 4294967296) :
    Calls Tryz.prog 101 #[.agg #[.int .u32 a, .int .u32 b], .agg #[.int .u32 c, .int .u32 d]] w fun r w' => r = .returned (.int .i64 ((a : Int) - c)) ∧ Fr [] w w' := by
  have h1 : IntKind.i64.wrap (a : Int) = a := by simp [IntKind.wrap, IntKind.signed, IntKind.bits]; omega
  have h2 : IntKind.i64.wrap (c : Int) = c := by simp [IntKind.wrap, IntKind.signed, IntKind.bits]; omega
  go_enter Tryz.func101, Tryz.ntmps101
  go_wp2_with fail
  go_ret
  exact ⟨rfl, (by repeat (first | exact Fr.refl _ _ | assumption | refine Fr.trans0 ?_ (by assumption) | refine Fr.drewN ?_ _ | refine Fr.alloc ?_ _ | refine Fr.drew ?_))⟩
/-- The place among regions: all that lie ahead of it begin below, all from it on do not. -/
def Place (l : List (Nat × Nat)) (a k : Nat) : Prop := k ≤ l.length ∧ (∀ (j : Nat) (r : Nat × Nat), j < k → l[j]? = some r → r.1 < a) ∧ ∀ (j : Nat) (r : Nat × Nat), k ≤ j → l[j]? = some r → a ≤ r.1
def Rise (l : List (Nat × Nat)) : Prop := ∀ (i j : Nat) (r s : Nat × Nat), i < j → l[i]? = some r → l[j]? = some s → r.1 < s.1
def SomeB (k : Nat) (e : Ending) : Prop := ∃ b : Bool, e = .returned (.tuple #[.int .i64 k, .bool b])
def Found (l : List (Nat × Nat)) (a : Nat) (w : World) (e : Ending) (w' : World) : Prop := ∃ k : Nat, Place l a k ∧ SomeB k e ∧ Fr [] w w'
set_option maxHeartbeats 2000000 in
set_option maxRecDepth 100000 in
theorem bsearch_any (w : World) (v : Value) (l : List (Nat × Nat)) (r : Nat × Nat) (hv : w.ownsRow 0 45 2 v l.length (rgv l)) (hl : l.length ≤ 100000) (hs : Rise l) (hb : ∀ x ∈ l, x.1 < 4294967296) (hr : r.1 < 4294967296) :
    Calls Tryz.prog 100 #[v, .agg #[.int .u32 r.1, .int .u32 r.2], .func (.func 101) #[] #[]] w (Found l r.1 w) := by
  obtain ⟨n, hn⟩ : ∃ n, l.length = n := ⟨_, rfl⟩
  have HN := Lib.hid hn
  rw [hn] at hv hl
  have ho := rows_open hv
  obtain ⟨va, vc, rfl, hvc⟩ := own_slice hv
  have hcell : n = 0 ∨ ∃ g, va = some ⟨g, 0, none⟩ ∧ ∀ W, Fr [] w W → ∀ i x, l[i]? = some x → ∀ j u, [Value.int .u32 (x.1 : Int), .int .u32 (x.2 : Int)][j]? = some u → W.cell? ((⟨g, i * 2, none⟩ : Addr).add j) = some u := by
    rcases ho with ⟨_, h0⟩ | ⟨g, cap, cur, e, -, hA, h1, h2, h3, h4⟩
    · exact .inl h0
    · injection e with e _ _
      refine .inr ⟨g, e, fun W hW i x hx j u hu => ?_⟩
      obtain ⟨q0, q1⟩ := rgv_get l i x hx
      have hlt := (List.getElem?_eq_some_iff.1 hx).1
      have hA' := hA.fr hW (by simp)
      have hu' : (rgv l)[i * 2 + j]? = some u := by
        match j, hu with
        | 0, hu => rw [Nat.add_zero, q0]; exact hu
        | 1, hu => rw [q1]; exact hu
      rw [Go.WideShapes.add_plain]
      exact rows_at hA' h4 (n := n) (cap := cap) 0 (i * 2 + j) u (by simpa using hu') |> fun h => by simpa using h
  have HC := Lib.hid hcell
  have HS := Lib.hid hs
  have HB := Lib.hid hb
  have HR := Lib.hid hr
  have HIR := Lib.hid infoRgS
  have A0 := Lib.hid (At.new w 45 #[.int .u32 (r.1 : Int), .int .u32 (r.2 : Int)])
  have F0 := Lib.hid (show Fr [] w (w.alloc (.cells #[.int .u32 (r.1 : Int), .int .u32 (r.2 : Int)] 45)) from (by repeat (first | exact Fr.refl _ _ | assumption | refine Fr.trans0 ?_ (by assumption) | refine Fr.drewN ?_ _ | refine Fr.alloc ?_ _ | refine Fr.drew ?_)))
  obtain ⟨ra, hra⟩ : ∃ a, r.1 = a := ⟨_, rfl⟩
  obtain ⟨rs, hrs⟩ : ∃ a, r.2 = a := ⟨_, rfl⟩
  rw [hra, hrs] at A0 F0
  rw [hra] at HR
  rw [hra, hrs]
  clear hcell hs hb hr ho hv hn hra hrs
  go_enter Tryz.func100, Tryz.ntmps100
  go_wp2_with fail
  go_loopw [9, 10] (fun s9 s10 wr => ∃ i j : Nat, i ≤ j ∧ j ≤ n ∧ s9 = .int .i64 i ∧ s10 = .int .i64 j ∧ (∀ (t : Nat) (x : Nat × Nat), t < i → l[t]? = some x → x.1 < ra) ∧ (∀ (t : Nat) (x : Nat × Nat), j ≤ t → l[t]? = some x → ra ≤ x.1) ∧ At wr w.heap.size 45 #[.int .u32 (ra : Int), .int .u32 (rs : Int)] ∧ Fr [] w wr) (fun s9 s10 _ => (intOf s10).toNat - (intOf s9).toNat)
  case atStart => exact ⟨0, n, by omega, by omega, rfl, rfl, (fun t x h => by omega), (fun t x h hx => by have := (List.getElem?_eq_some_iff.1 hx).1; rw [HN.out] at this; omega), A0.out, F0.out⟩
  case round =>
    clear A0 F0
    obtain ⟨i, j, hij, hjn, rfl, rfl, hlo, hhi, ha, hf⟩ := hrel
    have HA := Lib.hid ha
    have HF := Lib.hid hf
    have HLO := Lib.hid hlo
    have HHI := Lib.hid hhi
    clear ha hf hlo hhi
    by_cases hlt : i < j
    · obtain ⟨m, hm⟩ : ∃ m, (i + j) / 2 = m := ⟨_, rfl⟩
      have hm1 : i ≤ m := by omega
      have hm2 : m < j := by omega
      have hmm : ((i : Int) + (j : Int)) / 2 = (m : Int) := by omega
      obtain ⟨g, rfl, hc⟩ := HC.out.resolve_left (by omega)
      obtain ⟨x, hx⟩ : ∃ x, l[m]? = some x := ⟨_, List.getElem?_eq_getElem (by rw [HN.out]; omega)⟩
      have HCX := Lib.hid fun W h => hc W h m x hx
      have CA := Lib.hid fun W => addf_any W x.1 x.2 ra rs (HB.out x (List.mem_of_getElem? hx)) HR.out
      obtain ⟨xa, hxa⟩ : ∃ a, x.1 = a := ⟨_, rfl⟩
      obtain ⟨xs, hxs⟩ : ∃ a, x.2 = a := ⟨_, rfl⟩
      rw [hxa, hxs] at CA HCX
      have HX := Lib.hid hx
      have HXA := Lib.hid hxa
      have k1 : (0 : Int) ≤ (m : Int) := by omega
      have k2 : (m : Int) < (n : Int) := by omega
      clear hm hc hx hxa hxs
      go_wp2_with fail
      have hwa : IntKind.i64.wrap (m : Int) = (m : Int) := by simp [IntKind.wrap, IntKind.signed, IntKind.bits]; omega
      refine wp_region_L (fun W => Fr [] w W ∧ At W w.heap.size 45 #[.int .u32 (ra : Int), .int .u32 (rs : Int)]) [] (by kernel_rfl) ⟨HF.out.drew, HA.out.hp rfl⟩ (fun hHeld => ?_)
      refine wpAnyL_take (i := 0) (v := ?_) rfl (by kernel_rfl) (fun _ _ _ h => h) (Or.inl ⟨by rfl, ?_⟩) (by assumption) ?_; rotate_left; (focus (intro w hSw; skip; go_simp; (try with_reducible rfl))); (try (refine wpAnyL_norm (by simp only [Act.put, List.setIfInBounds_toArray, List.set_cons_zero, List.set_cons_succ]; rfl) ?_))
      refine wpAnyL_take (i := 1) (v := ?_) rfl (by kernel_rfl) (fun _ _ _ h => h) (Or.inl ⟨by rfl, ?_⟩) (by assumption) ?_; rotate_left; (focus (intro w hSw; skip; go_simp; (try with_reducible rfl))); (try (refine wpAnyL_norm (by simp only [Act.put, List.setIfInBounds_toArray, List.set_cons_zero, List.set_cons_succ]; rfl) ?_))
      refine wpAnyL_take (i := 2) (v := ?_) rfl (by kernel_rfl) (fun _ _ _ h => h) (Or.inl ⟨by rfl, ?_⟩) (by assumption) ?_; rotate_left; (focus (intro w hSw; skip; go_simp; (try with_reducible rfl))); (try (refine wpAnyL_norm (by simp only [Act.put, List.setIfInBounds_toArray, List.set_cons_zero, List.set_cons_succ]; rfl) ?_))
      refine wpAnyL_take (i := 3) (v := ?_) rfl (by kernel_rfl) (fun _ _ _ h => h) (Or.inl ⟨by rfl, ?_⟩) (by assumption) ?_; rotate_left; (focus (intro w hSw; skip; go_simp; (try with_reducible rfl))); (try (refine wpAnyL_norm (by simp only [Act.put, List.setIfInBounds_toArray, List.set_cons_zero, List.set_cons_succ]; rfl) ?_))
      refine wpAnyL_take (i := 4) rfl (by kernel_rfl) (fun _ _ _ h => h) (yields_load_at 45 (.tmp 27) rfl ⟨g, m * 2, none⟩ rfl [.int .u32 (xa : Int), .int .u32 (xs : Int)] _ (fun W h => HCX.out W h.1) Tryz.underlying45 rfl infoRgS rfl) (by assumption) ?_; (try (refine wpAnyL_norm (by simp only [Act.put, List.setIfInBounds_toArray, List.set_cons_zero, List.set_cons_succ]; rfl) ?_))
      refine wpAnyL_take (i := 5) rfl (by kernel_rfl) (fun _ _ _ h => h) (yields_load_at 45 (.tmp 4) rfl ⟨w.heap.size, 0, none⟩ rfl [.int .u32 (ra : Int), .int .u32 (rs : Int)] _ (fun W h j v hv => by rw [Go.WideShapes.add_plain, Nat.zero_add, h.2.cell, List.getElem?_toArray]; exact hv) Tryz.underlying45 rfl infoRgS rfl) (by assumption) ?_; (try (refine wpAnyL_norm (by simp only [Act.put, List.setIfInBounds_toArray, List.set_cons_zero, List.set_cons_succ]; rfl) ?_))
      refine wpAnyL_ready (rs := [6]) (by kernel_rfl) (by simp) ?_; refine AllReadyL.cons rfl (fun K hK => ?_) AllReadyL.nil
      go_simp
      refine (CA.out _).mono ?_
      rintro e w5 ⟨rfl, hf5⟩
      refine hK.out _ _ (fun _ => ⟨hHeld.1.trans0 hf5, hHeld.2.fr hf5 (by simp)⟩) (fun hHeld' => ?_); have hHeld := hHeld' (by decide); clear hHeld' hK K; (try (refine wpAnyL_norm (by simp only [Act.put, List.setIfInBounds_toArray, List.set_cons_zero, List.set_cons_succ]; rfl) ?_))
      by_cases hxr : xa < ra
      · have d1 : decide ((xa : Int) - (ra : Int) < 0) = true := by simp; omega
        have d2 : (xa : Int) - (ra : Int) < 0 := by omega
        refine wpAnyL_take (i := 7) (v := ?_) rfl (by kernel_rfl) (fun _ _ _ h => h) (Or.inl ⟨by rfl, ?_⟩) (by assumption) ?_; rotate_left; (focus (intro w hSw; skip; go_simp; (try with_reducible rfl))); (try (refine wpAnyL_norm (by simp only [Act.put, List.setIfInBounds_toArray, List.set_cons_zero, List.set_cons_succ]; rfl) ?_))
        refine wpAnyL_done (by kernel_rfl) ?_ _
        go_wp2_with fail
        go_roundw
        case rel => exact ⟨m + 1, j, by omega, by omega, by go_num, rfl, (fun t x ht hx => by
            by_cases e : t = m
            · rw [e, HX.out] at hx; cases hx; rw [HXA.out]; exact hxr
            · rcases Nat.lt_or_ge t i with h1 | h1
              · exact HLO.out t x h1 hx
              · exact Nat.lt_trans (HS.out t m x _ (by omega) hx HX.out) (by rw [HXA.out]; exact hxr)), HHI.out, hHeld.2, hHeld.1⟩
        case measure => simp [intOf]; omega
      · have d1 : decide ((xa : Int) - (ra : Int) < 0) = false := by simp; omega
        have d2 : ¬ ((xa : Int) - (ra : Int) < 0) := by omega
        refine wpAnyL_take (i := 7) (v := ?_) rfl (by kernel_rfl) (fun _ _ _ h => h) (Or.inl ⟨by rfl, ?_⟩) (by assumption) ?_; rotate_left; (focus (intro w hSw; skip; go_simp; (try with_reducible rfl))); (try (refine wpAnyL_norm (by simp only [Act.put, List.setIfInBounds_toArray, List.set_cons_zero, List.set_cons_succ]; rfl) ?_))
        refine wpAnyL_done (by kernel_rfl) ?_ _
        go_wp2_with fail
        go_roundw
        case rel => exact ⟨i, m, by omega, by omega, rfl, rfl, HLO.out, (fun t x ht hx => by
            by_cases e : t = m
            · rw [e, HX.out] at hx; cases hx; rw [HXA.out]; omega
            · have := HS.out m t _ x (by omega) HX.out hx; rw [HXA.out] at this; omega), hHeld.2, hHeld.1⟩
        case measure => simp [intOf]; omega
    · obtain rfl : i = j := by omega
      have hwa : IntKind.i64.wrap (i : Int) = (i : Int) := by simp [IntKind.wrap, IntKind.signed, IntKind.bits]; omega
      have PL : Hid (Place l ra i) := Lib.hid ⟨by rw [HN.out]; exact hjn, HLO.out, HHI.out⟩
      by_cases hin : i < n
      · obtain ⟨g, rfl, hc⟩ := HC.out.resolve_left (by omega)
        obtain ⟨x, hx⟩ : ∃ x, l[i]? = some x := ⟨_, List.getElem?_eq_getElem (by rw [HN.out]; omega)⟩
        have HCX := Lib.hid fun W h => hc W h i x hx
        have CA := Lib.hid fun W => addf_any W x.1 x.2 ra rs (HB.out x (List.mem_of_getElem? hx)) HR.out
        obtain ⟨xa, hxa⟩ : ∃ a, x.1 = a := ⟨_, rfl⟩
        obtain ⟨xs, hxs⟩ : ∃ a, x.2 = a := ⟨_, rfl⟩
        rw [hxa, hxs] at CA HCX
        have k1 : (0 : Int) ≤ (i : Int) := by omega
        have k2 : (i : Int) < (n : Int) := by omega
        have k3 : decide ((i : Int) < (n : Int)) = true := by simp; omega
        have k4 : decide (i < n) = true := by simp; omega
        clear hc hx hxa hxs
        go_wp2_with fail
        refine wp_region_L (fun W => Fr [] w W ∧ At W w.heap.size 45 #[.int .u32 (ra : Int), .int .u32 (rs : Int)]) [] (by kernel_rfl) ⟨HF.out.drew, HA.out.hp rfl⟩ (fun hHeld => ?_)
        refine wpAnyL_take (i := 0) (v := ?_) rfl (by kernel_rfl) (fun _ _ _ h => h) (Or.inl ⟨by rfl, ?_⟩) (by assumption) ?_; rotate_left; (focus (intro w hSw; skip; go_simp; (try with_reducible rfl))); (try (refine wpAnyL_norm (by simp only [Act.put, List.setIfInBounds_toArray, List.set_cons_zero, List.set_cons_succ]; rfl) ?_))
        refine wpAnyL_take (i := 1) (v := ?_) rfl (by kernel_rfl) (fun _ _ _ h => h) (Or.inl ⟨by rfl, ?_⟩) (by assumption) ?_; rotate_left; (focus (intro w hSw; skip; go_simp; (try with_reducible rfl))); (try (refine wpAnyL_norm (by simp only [Act.put, List.setIfInBounds_toArray, List.set_cons_zero, List.set_cons_succ]; rfl) ?_))
        refine wpAnyL_take (i := 2) (v := ?_) rfl (by kernel_rfl) (fun _ _ _ h => h) (Or.inl ⟨by rfl, ?_⟩) (by assumption) ?_; rotate_left; (focus (intro w hSw; skip; go_simp; (try with_reducible rfl))); (try (refine wpAnyL_norm (by simp only [Act.put, List.setIfInBounds_toArray, List.set_cons_zero, List.set_cons_succ]; rfl) ?_))
        refine wpAnyL_take (i := 3) (v := ?_) rfl (by kernel_rfl) (fun _ _ _ h => h) (Or.inl ⟨by rfl, ?_⟩) (by assumption) ?_; rotate_left; (focus (intro w hSw; skip; go_simp; (try with_reducible rfl))); (try (refine wpAnyL_norm (by simp only [Act.put, List.setIfInBounds_toArray, List.set_cons_zero, List.set_cons_succ]; rfl) ?_))
        refine wpAnyL_take (i := 4) (v := ?_) rfl (by kernel_rfl) (fun _ _ _ h => h) (Or.inl ⟨by rfl, ?_⟩) (by assumption) ?_; rotate_left; (focus (intro w hSw; skip; go_simp; (try with_reducible rfl))); (try (refine wpAnyL_norm (by simp only [Act.put, List.setIfInBounds_toArray, List.set_cons_zero, List.set_cons_succ]; rfl) ?_))
        refine wpAnyL_take (i := 5) (v := ?_) rfl (by kernel_rfl) (fun _ _ _ h => h) (Or.inl ⟨by rfl, ?_⟩) (by assumption) ?_; rotate_left; (focus (intro w hSw; skip; go_simp; (try with_reducible rfl))); (try (refine wpAnyL_norm (by simp only [Act.put, List.setIfInBounds_toArray, List.set_cons_zero, List.set_cons_succ]; rfl) ?_))
        refine wpAnyL_take (i := 6) (v := ?_) rfl (by kernel_rfl) (fun _ _ _ h => h) (Or.inl ⟨by rfl, ?_⟩) (by assumption) ?_; rotate_left; (focus (intro w hSw; skip; go_simp; (try with_reducible rfl))); (try (refine wpAnyL_norm (by simp only [Act.put, List.setIfInBounds_toArray, List.set_cons_zero, List.set_cons_succ]; rfl) ?_))
        refine wpAnyL_take (i := 7) (v := ?_) rfl (by kernel_rfl) (fun _ _ _ h => h) (Or.inl ⟨by rfl, ?_⟩) (by assumption) ?_; rotate_left; (focus (intro w hSw; skip; go_simp; (try with_reducible rfl))); (try (refine wpAnyL_norm (by simp only [Act.put, List.setIfInBounds_toArray, List.set_cons_zero, List.set_cons_succ]; rfl) ?_))
        refine wpAnyL_take (i := 8) (v := ?_) rfl (by kernel_rfl) (fun _ _ _ h => h) (Or.inl ⟨by rfl, ?_⟩) (by assumption) ?_; rotate_left; (focus (intro w hSw; skip; go_simp; (try with_reducible rfl))); (try (refine wpAnyL_norm (by simp only [Act.put, List.setIfInBounds_toArray, List.set_cons_zero, List.set_cons_succ]; rfl) ?_))
        refine wpAnyL_take (i := 9) rfl (by kernel_rfl) (fun _ _ _ h => h) (yields_load_at 45 (.tmp 43) rfl ⟨g, i * 2, none⟩ rfl [.int .u32 (xa : Int), .int .u32 (xs : Int)] _ (fun W h => HCX.out W h.1) Tryz.underlying45 rfl infoRgS rfl) (by assumption) ?_; (try (refine wpAnyL_norm (by simp only [Act.put, List.setIfInBounds_toArray, List.set_cons_zero, List.set_cons_succ]; rfl) ?_))
        refine wpAnyL_take (i := 10) rfl (by kernel_rfl) (fun _ _ _ h => h) (yields_load_at 45 (.tmp 4) rfl ⟨w.heap.size, 0, none⟩ rfl [.int .u32 (ra : Int), .int .u32 (rs : Int)] _ (fun W h j v hv => by rw [Go.WideShapes.add_plain, Nat.zero_add, h.2.cell, List.getElem?_toArray]; exact hv) Tryz.underlying45 rfl infoRgS rfl) (by assumption) ?_; (try (refine wpAnyL_norm (by simp only [Act.put, List.setIfInBounds_toArray, List.set_cons_zero, List.set_cons_succ]; rfl) ?_))
        refine wpAnyL_ready (rs := [11]) (by kernel_rfl) (by simp) ?_; refine AllReadyL.cons rfl (fun K hK => ?_) AllReadyL.nil
        go_simp
        refine (CA.out _).mono ?_
        rintro e w5 ⟨rfl, hf5⟩
        refine hK.out _ _ (fun _ => ⟨hHeld.1.trans0 hf5, hHeld.2.fr hf5 (by simp)⟩) (fun hHeld' => ?_); have hHeld := hHeld' (by decide); clear hHeld' hK K; (try (refine wpAnyL_norm (by simp only [Act.put, List.setIfInBounds_toArray, List.set_cons_zero, List.set_cons_succ]; rfl) ?_))
        obtain ⟨B, hB⟩ : ∃ B, (((xa : Int) - (ra : Int)) == 0) = B := ⟨_, rfl⟩
        refine wpAnyL_take (i := 12) (v := ?_) rfl (by kernel_rfl) (fun _ _ _ h => h) (Or.inl ⟨by rfl, ?_⟩) (by assumption) ?_; rotate_left; (focus (intro w hSw; skip; go_simp; (try with_reducible rfl))); (try (refine wpAnyL_norm (by simp only [Act.put, List.setIfInBounds_toArray, List.set_cons_zero, List.set_cons_succ]; rfl) ?_))
        refine wpAnyL_take (i := 13) (v := ?_) rfl (by kernel_rfl) (fun _ _ _ h => h) (Or.inl ⟨by rfl, ?_⟩) (by assumption) ?_; rotate_left; (focus (intro w hSw; skip; go_simp; (try with_reducible rfl))); (try (refine wpAnyL_norm (by simp only [Act.put, List.setIfInBounds_toArray, List.set_cons_zero, List.set_cons_succ]; rfl) ?_))
        refine wpAnyL_take (i := 14) (v := ?_) rfl (by kernel_rfl) (fun _ _ _ h => h) (Or.inl ⟨by rfl, ?_⟩) (by assumption) ?_; rotate_left; (focus (intro w hSw; skip; go_simp; (try with_reducible rfl))); (try (refine wpAnyL_norm (by simp only [Act.put, List.setIfInBounds_toArray, List.set_cons_zero, List.set_cons_succ]; rfl) ?_))
        refine wpAnyL_take (i := 15) (v := ?_) rfl (by kernel_rfl) (fun _ _ _ h => h) (Or.inl ⟨by rfl, ?_⟩) (by assumption) ?_; rotate_left; (focus (intro w hSw; skip; go_simp; (try with_reducible rfl))); (try (refine wpAnyL_norm (by simp only [Act.put, List.setIfInBounds_toArray, List.set_cons_zero, List.set_cons_succ]; rfl) ?_))
        refine wpAnyL_done (by kernel_rfl) ?_ _
        go_wp2_with fail
        go_ret2
        exact ⟨i, PL.out, ⟨_, rfl⟩, hHeld.1⟩
      · obtain rfl : i = n := by omega
        go_wp2_with fail
        refine wp_region_L (fun W => Fr [] w W ∧ At W w.heap.size 45 #[.int .u32 (ra : Int), .int .u32 (rs : Int)]) [] (by kernel_rfl) ⟨HF.out.drew, HA.out.hp rfl⟩ (fun hHeld => ?_)
        refine wpAnyL_take (i := 0) (v := ?_) rfl (by kernel_rfl) (fun _ _ _ h => h) (Or.inl ⟨by rfl, ?_⟩) (by assumption) ?_; rotate_left; (focus (intro w hSw; skip; go_simp; (try with_reducible rfl))); (try (refine wpAnyL_norm (by simp only [Act.put, List.setIfInBounds_toArray, List.set_cons_zero, List.set_cons_succ]; rfl) ?_))
        refine wpAnyL_take (i := 1) (v := ?_) rfl (by kernel_rfl) (fun _ _ _ h => h) (Or.inl ⟨by rfl, ?_⟩) (by assumption) ?_; rotate_left; (focus (intro w hSw; skip; go_simp; (try with_reducible rfl))); (try (refine wpAnyL_norm (by simp only [Act.put, List.setIfInBounds_toArray, List.set_cons_zero, List.set_cons_succ]; rfl) ?_))
        refine wpAnyL_take (i := 2) (v := ?_) rfl (by kernel_rfl) (fun _ _ _ h => h) (Or.inl ⟨by rfl, ?_⟩) (by assumption) ?_; rotate_left; (focus (intro w hSw; skip; go_simp; (try with_reducible rfl))); (try (refine wpAnyL_norm (by simp only [Act.put, List.setIfInBounds_toArray, List.set_cons_zero, List.set_cons_succ]; rfl) ?_))
        refine wpAnyL_take (i := 3) (v := ?_) rfl (by kernel_rfl) (fun _ _ _ h => h) (Or.inl ⟨by rfl, ?_⟩) (by assumption) ?_; rotate_left; (focus (intro w hSw; skip; go_simp; (try with_reducible rfl))); (try (refine wpAnyL_norm (by simp only [Act.put, List.setIfInBounds_toArray, List.set_cons_zero, List.set_cons_succ]; rfl) ?_))
        refine wpAnyL_take (i := 4) (v := ?_) rfl (by kernel_rfl) (fun _ _ _ h => h) (Or.inl ⟨by rfl, ?_⟩) (by assumption) ?_; rotate_left; (focus (intro w hSw; skip; go_simp; (try with_reducible rfl))); (try (refine wpAnyL_norm (by simp only [Act.put, List.setIfInBounds_toArray, List.set_cons_zero, List.set_cons_succ]; rfl) ?_))
        refine wpAnyL_take (i := 5) (v := undef) rfl (by kernel_rfl) (fun _ _ _ h => h) (Or.inr ⟨by rfl, rfl⟩) (by assumption) ?_; (try (refine wpAnyL_norm (by simp only [Act.put, List.setIfInBounds_toArray, List.set_cons_zero, List.set_cons_succ]; rfl) ?_))
        refine wpAnyL_take (i := 6) (v := undef) rfl (by kernel_rfl) (fun _ _ _ h => h) (Or.inr ⟨by rfl, rfl⟩) (by assumption) ?_; (try (refine wpAnyL_norm (by simp only [Act.put, List.setIfInBounds_toArray, List.set_cons_zero, List.set_cons_succ]; rfl) ?_))
        refine wpAnyL_take (i := 7) (v := undef) rfl (by kernel_rfl) (fun _ _ _ h => h) (Or.inr ⟨by rfl, rfl⟩) (by assumption) ?_; (try (refine wpAnyL_norm (by simp only [Act.put, List.setIfInBounds_toArray, List.set_cons_zero, List.set_cons_succ]; rfl) ?_))
        refine wpAnyL_take (i := 8) (v := undef) rfl (by kernel_rfl) (fun _ _ _ h => h) (Or.inr ⟨by rfl, rfl⟩) (by assumption) ?_; (try (refine wpAnyL_norm (by simp only [Act.put, List.setIfInBounds_toArray, List.set_cons_zero, List.set_cons_succ]; rfl) ?_))
        refine wpAnyL_take (i := 9) (v := undef) rfl (by kernel_rfl) (fun _ _ _ h => h) (Or.inr ⟨by rfl, rfl⟩) (by assumption) ?_; (try (refine wpAnyL_norm (by simp only [Act.put, List.setIfInBounds_toArray, List.set_cons_zero, List.set_cons_succ]; rfl) ?_))
        refine wpAnyL_take (i := 10) (v := undef) rfl (by kernel_rfl) (fun _ _ _ h => h) (Or.inr ⟨by rfl, rfl⟩) (by assumption) ?_; (try (refine wpAnyL_norm (by simp only [Act.put, List.setIfInBounds_toArray, List.set_cons_zero, List.set_cons_succ]; rfl) ?_))
        refine wpAnyL_take (i := 11) (v := undef) rfl (by kernel_rfl) (fun _ _ _ h => h) (Or.inr ⟨by rfl, rfl⟩) (by assumption) ?_; (try (refine wpAnyL_norm (by simp only [Act.put, List.setIfInBounds_toArray, List.set_cons_zero, List.set_cons_succ]; rfl) ?_))
        refine wpAnyL_take (i := 12) (v := undef) rfl (by kernel_rfl) (fun _ _ _ h => h) (Or.inr ⟨by rfl, rfl⟩) (by assumption) ?_; (try (refine wpAnyL_norm (by simp only [Act.put, List.setIfInBounds_toArray, List.set_cons_zero, List.set_cons_succ]; rfl) ?_))
        refine wpAnyL_take (i := 13) (v := ?_) rfl (by kernel_rfl) (fun _ _ _ h => h) (Or.inl ⟨by rfl, ?_⟩) (by assumption) ?_; rotate_left; (focus (intro w hSw; skip; go_simp; (try with_reducible rfl))); (try (refine wpAnyL_norm (by simp only [Act.put, List.setIfInBounds_toArray, List.set_cons_zero, List.set_cons_succ]; rfl) ?_))
        refine wpAnyL_take (i := 14) (v := ?_) rfl (by kernel_rfl) (fun _ _ _ h => h) (Or.inl ⟨by rfl, ?_⟩) (by assumption) ?_; rotate_left; (focus (intro w hSw; skip; go_simp; (try with_reducible rfl))); (try (refine wpAnyL_norm (by simp only [Act.put, List.setIfInBounds_toArray, List.set_cons_zero, List.set_cons_succ]; rfl) ?_))
        refine wpAnyL_take (i := 15) (v := ?_) rfl (by kernel_rfl) (fun _ _ _ h => h) (Or.inl ⟨by rfl, ?_⟩) (by assumption) ?_; rotate_left; (focus (intro w hSw; skip; go_simp; (try with_reducible rfl))); (try (refine wpAnyL_norm (by simp only [Act.put, List.setIfInBounds_toArray, List.set_cons_zero, List.set_cons_succ]; rfl) ?_))
        refine wpAnyL_done (by kernel_rfl) ?_ _
        go_wp2_with fail
        go_ret2
        exact ⟨i, PL.out, ⟨_, rfl⟩, hHeld.1⟩
end Go.Proofs.YthjbnbimfpbccaaGreatDoor
/-
  math/bits.OnesCount64 counts the bits that are set. Condition: the type's own range.
-/

set_option linter.unusedVariables false
namespace Go.Proofs.YthjbnbimfpbccaaGreatDoor
open Go.ChangeShapes Go.WideShapes Go.ChangeAt Go.RowKit
/-! ### plain: how many of the first m places -/
def cnt (g : Nat → Bool) : Nat → Nat
  | 0 => 0
  | m + 1 => cnt g m + if g m = true then 1 else 0
theorem cnt_congr {g h : Nat → Bool} : ∀ m, (∀ i, i < m → g i = h i) → cnt g m = cnt h m
  | 0, _ => rfl
  | m + 1, e => by simp only [cnt]; rw [cnt_congr m fun i hi => e i (by omega), e m (by omega)]
theorem cnt_add (g : Nat → Bool) (a : Nat) : ∀ b, cnt g (a + b) = cnt g a + cnt (fun j => g (a + j)) b
  | 0 => rfl
  | b + 1 => by rw [← Nat.add_assoc]; simp only [cnt]; rw [cnt_add g a b]; omega
theorem cnt_le (g : Nat → Bool) : ∀ m, cnt g m ≤ m
  | 0 => Nat.le_refl _
  | m + 1 => by have := cnt_le g m; simp only [cnt]; split <;> omega
theorem cnt_zero (g : Nat → Bool) (m : Nat) (h : ∀ i, i < m → g i = false) : cnt g m = 0 := by
  induction m with
  | zero => rfl
  | succ m ih => simp only [cnt]; rw [ih fun i hi => h i (by omega), h m (by omega)]; rfl
theorem cnt_pos (g : Nat → Bool) (m i : Nat) (hi : i < m) (h : g i = true) : 0 < cnt g m := by
  induction m with
  | zero => omega
  | succ m ih =>
    simp only [cnt]
    by_cases e : i = m
    · subst e; rw [if_pos h]; omega
    · have := ih (by omega); omega
/-! ### bytes -/
def bytes : List Nat → Nat
  | [] => 0
  | L :: l => bytes l * 256 + L
def msk (c : Nat) : Nat → Nat
  | 0 => 0
  | n + 1 => msk c n * 256 + c
theorem and_cat (a b c d : Nat) (hb : b < 256) (hd : d < 256) : (a * 256 + b) &&& (c * 256 + d) = (a &&& c) * 256 + (b &&& d) := by
  have hbd : b &&& d < 256 := Nat.and_lt_two_pow (n := 8) _ hd
  apply Nat.eq_of_testBit_eq
  intro j
  rw [Nat.testBit_and]
  have key : ∀ x y : Nat, y < 256 → (x * 256 + y).testBit j = if j < 8 then y.testBit j else x.testBit (j - 8) := by
    intro x y hy
    have := Nat.testBit_two_pow_mul_add (i := 8) x hy j
    rw [Nat.mul_comm] at this
    exact this
  rw [key a b hb, key c d hd, key _ _ hbd]
  split <;> simp [Nat.testBit_and]
def t1 (L : Nat) : Nat := (L / 2 &&& 85) + (L &&& 85)
def t2 (L : Nat) : Nat := (L / 4 &&& 51) + (L &&& 51)
def t3 (L : Nat) : Nat := (L / 16 + L) &&& 15
theorem low1 : ∀ h : Fin 2, ∀ L : Fin 256, ((h.val * 128 + L.val / 2) &&& 85) = (L.val / 2 &&& 85) ∧ t1 L.val < 256 := by decide +kernel
theorem low2 : ∀ h : Fin 4, ∀ L : Fin 256, ((h.val * 64 + L.val / 4) &&& 51) = (L.val / 4 &&& 51) ∧ t2 L.val < 256 := by decide +kernel
theorem low3 : ∀ L : Fin 256, (t2 (t1 L.val)) % 16 ≤ 4 ∧ t2 (t1 L.val) / 16 ≤ 4 ∧ t3 (t2 (t1 L.val)) = cnt L.val.testBit 8 := by decide +kernel
theorem step1 : ∀ l : List Nat, (∀ L ∈ l, L < 256) → (bytes l / 2 &&& msk 85 l.length) + (bytes l &&& msk 85 l.length) = bytes (l.map t1)
  | [], _ => rfl
  | L :: l, h => by
    have hL : L < 256 := h L (by simp)
    have ih := step1 l fun x hx => h x (by simp [hx])
    have e := (low1 ⟨bytes l % 2, by omega⟩ ⟨L, hL⟩).1
    dsimp only at e
    simp only [bytes, msk, List.length_cons, List.map_cons]
    rw [show (bytes l * 256 + L) / 2 = bytes l / 2 * 256 + (bytes l % 2 * 128 + L / 2) by omega, and_cat _ _ _ _ (by omega) (by omega), and_cat _ _ _ _ hL (by omega), e, ← ih]
    simp only [t1]; omega
theorem step2 : ∀ l : List Nat, (∀ L ∈ l, L < 256) → (bytes l / 4 &&& msk 51 l.length) + (bytes l &&& msk 51 l.length) = bytes (l.map t2)
  | [], _ => rfl
  | L :: l, h => by
    have hL : L < 256 := h L (by simp)
    have ih := step2 l fun x hx => h x (by simp [hx])
    have e := (low2 ⟨bytes l % 4, by omega⟩ ⟨L, hL⟩).1
    dsimp only at e
    simp only [bytes, msk, List.length_cons, List.map_cons]
    rw [show (bytes l * 256 + L) / 4 = bytes l / 4 * 256 + (bytes l % 4 * 64 + L / 4) by omega, and_cat _ _ _ _ (by omega) (by omega), and_cat _ _ _ _ hL (by omega), e, ← ih]
    simp only [t2]; omega
theorem and15 (n : Nat) : n &&& 15 = n % 16 := Nat.and_two_pow_sub_one_eq_mod n 4
theorem step3 : ∀ l : List Nat, (∀ L ∈ l, L % 16 ≤ 4 ∧ L / 16 ≤ 4) → (bytes l / 16 + bytes l) &&& msk 15 l.length = bytes (l.map t3)
  | [], _ => rfl
  | L :: l, h => by
    have hL := h L (by simp)
    have ih := step3 l fun x hx => h x (by simp [hx])
    have hl : bytes l % 16 ≤ 4 := by
      cases l with
      | nil => simp [bytes]
      | cons L' l' => have := h L' (by simp); simp only [bytes]; omega
    simp only [bytes, msk, List.length_cons, List.map_cons]
    rw [show (bytes l * 256 + L) / 16 + (bytes l * 256 + L) = (bytes l / 16 + bytes l) * 256 + (bytes l % 16 * 16 + L / 16 + L) by omega, and_cat _ _ _ _ (by omega) (by omega), ih]
    simp only [t3, and15]; omega
theorem cnt_bytes : ∀ l : List Nat, (∀ L ∈ l, L < 256) → cnt (bytes l).testBit (8 * l.length) = (l.map fun L => cnt L.testBit 8).sum
  | [], _ => rfl
  | L :: l, h => by
    have hL : L < 256 := h L (by simp)
    have ih := cnt_bytes l fun x hx => h x (by simp [hx])
    have key : ∀ j, (bytes l * 256 + L).testBit j = if j < 8 then L.testBit j else (bytes l).testBit (j - 8) := fun j => by
      have := Nat.testBit_two_pow_mul_add (i := 8) (bytes l) hL j
      rw [Nat.mul_comm] at this
      exact this
    rw [show 8 * (L :: l).length = 8 + 8 * l.length by simp; omega, cnt_add, List.map_cons, List.sum_cons, ← ih]
    congr 1
    · exact cnt_congr 8 fun i hi => by simp only [bytes]; rw [key, if_pos hi]
    · exact cnt_congr _ fun i hi => by simp only [bytes]; rw [key, if_neg (by omega)]; congr 1; omega
def p1 (X : Nat) : Nat := (X / 2 &&& 6148914691236517205) + (X &&& 6148914691236517205)
def p2 (X : Nat) : Nat := (X / 4 &&& 3689348814741910323) + (X &&& 3689348814741910323)
def p3 (X : Nat) : Nat := (X / 16 + X) &&& 1085102592571150095
def p4 (X : Nat) : Nat := X + X / 256
def p5 (X : Nat) : Nat := X + X / 65536
def p6 (X : Nat) : Nat := X + X / 4294967296
theorem p3_bytes (l : List Nat) (h : ∀ L ∈ l, L < 256) (hl : l.length = 8) : p3 (p2 (p1 (bytes l))) = bytes (l.map fun L => cnt L.testBit 8) := by
  have e1 := step1 l h
  have e2 := step2 (l.map t1) (by simp only [List.mem_map]; rintro x ⟨L, hL, rfl⟩; exact (low1 0 ⟨L, h L hL⟩).2)
  have e3 := step3 ((l.map t1).map t2) (by
    simp only [List.mem_map]; rintro x ⟨y, ⟨L, hL, rfl⟩, rfl⟩
    have := low3 ⟨L, h L hL⟩; exact ⟨this.1, this.2.1⟩)
  rw [hl, show msk 85 8 = 6148914691236517205 by rfl] at e1
  rw [List.length_map, hl, show msk 51 8 = 3689348814741910323 by rfl] at e2
  rw [List.length_map, List.length_map, hl, show msk 15 8 = 1085102592571150095 by rfl] at e3
  unfold p3 p2 p1
  rw [e1, e2, e3, List.map_map, List.map_map]
  congr 1
  refine List.map_congr_left fun L hL => ?_
  exact (low3 ⟨L, h L hL⟩).2.2
theorem eight (X : Nat) (h : X < 18446744073709551616) : ∃ a b c d e f g k : Nat, X = bytes [a, b, c, d, e, f, g, k] ∧ ∀ L ∈ [a, b, c, d, e, f, g, k], L < 256 := by
  refine ⟨X % 256, X / 256 % 256, X / 65536 % 256, X / 16777216 % 256, X / 4294967296 % 256, X / 1099511627776 % 256, X / 281474976710656 % 256, X / 72057594037927936 % 256, ?_, ?_⟩
  · simp only [bytes]; omega
  · intro L hL
    simp only [List.mem_cons, List.not_mem_nil, or_false] at hL
    omega
theorem pop_eq (X : Nat) (h : X < 18446744073709551616) : p6 (p5 (p4 (p3 (p2 (p1 X))))) % 128 = cnt X.testBit 64 ∧ p6 (p5 (p4 (p3 (p2 (p1 X))))) < 9223372036854775808 := by
  obtain ⟨a, b, c, d, e, f, g, k, hX, hl⟩ := eight X h
  have h3 := p3_bytes _ hl rfl
  have h8 := cnt_bytes _ hl
  rw [← hX] at h3 h8
  rw [show 8 * [a, b, c, d, e, f, g, k].length = 64 by rfl] at h8
  rw [h3, h8]
  have ha := cnt_le a.testBit 8
  have hb := cnt_le b.testBit 8
  have hc := cnt_le c.testBit 8
  have hd := cnt_le d.testBit 8
  have he := cnt_le e.testBit 8
  have hf := cnt_le f.testBit 8
  have hg := cnt_le g.testBit 8
  have hk := cnt_le k.testBit 8
  simp only [List.map_cons, List.map_nil, List.sum_cons, List.sum_nil]
  generalize cnt a.testBit 8 = A at *
  generalize cnt b.testBit 8 = B at *
  generalize cnt c.testBit 8 = C at *
  generalize cnt d.testBit 8 = D at *
  generalize cnt e.testBit 8 = E at *
  generalize cnt f.testBit 8 = F at *
  generalize cnt g.testBit 8 = G at *
  generalize cnt k.testBit 8 = K at *
  have q3 : bytes [A, B, C, D, E, F, G, K] = bytes [A, B, C, D, E, F, G, K] := rfl
  have q4 : p4 (bytes [A, B, C, D, E, F, G, K]) = bytes [A + B, B + C, C + D, D + E, E + F, F + G, G + K, K] := by simp only [p4, bytes]; omega
  have q5 : p5 (bytes [A + B, B + C, C + D, D + E, E + F, F + G, G + K, K]) = bytes [A + B + (C + D), B + C + (D + E), C + D + (E + F), D + E + (F + G), E + F + (G + K), F + G + K, G + K, K] := by simp only [p5, bytes]; omega
  have q6 : p6 (bytes [A + B + (C + D), B + C + (D + E), C + D + (E + F), D + E + (F + G), E + F + (G + K), F + G + K, G + K, K]) = bytes [A + B + (C + D) + (E + F + (G + K)), B + C + (D + E) + (F + G + K), C + D + (E + F) + (G + K), D + E + (F + G) + K, E + F + (G + K), F + G + K, G + K, K] := by simp only [p6, bytes]; omega
  rw [q4, q5, q6]
  constructor
  · show (bytes _ * 256 + (A + B + (C + D) + (E + F + (G + K)))) % 128 = _
    omega
  · simp only [bytes]; omega
theorem and_le' (a m : Nat) : a &&& m ≤ m := Nat.and_le_right
theorem wrap_nat (a : Nat) (h : a < 18446744073709551616) : IntKind.u64.wrap (a : Int) = a := IntWalk.u64_in _ (by omega)
theorem band (a b : Nat) (ha : a < 18446744073709551616) (hb : b < 18446744073709551616) : bits .and .u64 (a : Int) (b : Int) = ((a &&& b : Nat) : Int) := u64_and_nat a b ha hb
theorem i1 (X : Nat) (h : X < 18446744073709551616) : IntKind.u64.wrap (bits .and .u64 ((X : Int) / 2) 6148914691236517205 + bits .and .u64 (X : Int) 6148914691236517205) = (p1 X : Int) := by
  have e1 := band (X / 2) 6148914691236517205 (by omega) (by omega)
  have e2 := band X 6148914691236517205 h (by omega)
  have l1 := and_le' (X / 2) 6148914691236517205
  have l2 := and_le' X 6148914691236517205
  have e3 := wrap_nat (p1 X) (by unfold p1; omega)
  rw [← e3]; unfold p1
  simp only [Int.natCast_add, ← e1, ← e2]
  rfl
theorem i2 (X : Nat) (h : X < 18446744073709551616) : IntKind.u64.wrap (bits .and .u64 ((X : Int) / 4) 3689348814741910323 + bits .and .u64 (X : Int) 3689348814741910323) = (p2 X : Int) := by
  have e1 := band (X / 4) 3689348814741910323 (by omega) (by omega)
  have e2 := band X 3689348814741910323 h (by omega)
  have l1 := and_le' (X / 4) 3689348814741910323
  have l2 := and_le' X 3689348814741910323
  have e3 := wrap_nat (p2 X) (by unfold p2; omega)
  rw [← e3]; unfold p2
  simp only [Int.natCast_add, ← e1, ← e2]
  rfl
theorem i3 (X : Nat) (h : X ≤ 7378697629483820646) : bits .and .u64 (IntKind.u64.wrap ((X : Int) / 16 + (X : Int))) 1085102592571150095 = (p3 X : Int) := by
  have e0 : ((X : Int) / 16 + (X : Int)) = ((X / 16 + X : Nat) : Int) := by omega
  rw [e0, wrap_nat _ (by omega)]
  exact band (X / 16 + X) 1085102592571150095 (by omega) (by omega)
theorem i4 (X : Nat) (h : X ≤ 9000000000000000000) : IntKind.u64.wrap ((X : Int) + (X : Int) / 256) = (p4 X : Int) := by
  have e0 : ((X : Int) + (X : Int) / 256) = (p4 X : Int) := by unfold p4; omega
  rw [e0, wrap_nat _ (by unfold p4; omega)]
theorem i5 (X : Nat) (h : X ≤ 9000000000000000000) : IntKind.u64.wrap ((X : Int) + (X : Int) / 65536) = (p5 X : Int) := by
  have e0 : ((X : Int) + (X : Int) / 65536) = (p5 X : Int) := by unfold p5; omega
  rw [e0, wrap_nat _ (by unfold p5; omega)]
theorem i6 (X : Nat) (h : X ≤ 9000000000000000000) : IntKind.u64.wrap ((X : Int) + (X : Int) / 4294967296) = (p6 X : Int) := by
  have e0 : ((X : Int) + (X : Int) / 4294967296) = (p6 X : Int) := by unfold p6; omega
  rw [e0, wrap_nat _ (by unfold p6; omega)]
def u64max : Int := 18446744073709551615
theorem pop_all (X : Nat) (h : X < 18446744073709551616) : p1 X ≤ 12297829382473034410 ∧ p2 (p1 X) ≤ 7378697629483820646 ∧ p3 (p2 (p1 X)) ≤ 1085102592571150095 ∧ p4 (p3 (p2 (p1 X))) ≤ 2170205185142300190 ∧ p5 (p4 (p3 (p2 (p1 X)))) ≤ 4340410370284600380 := by
  have a1 := and_le' (X / 2) 6148914691236517205
  have a2 := and_le' X 6148914691236517205
  have b1 : p1 X ≤ 12297829382473034410 := by unfold p1; omega
  have a3 := and_le' (p1 X / 4) 3689348814741910323
  have a4 := and_le' (p1 X) 3689348814741910323
  have b2 : p2 (p1 X) ≤ 7378697629483820646 := by unfold p2; omega
  have b3 : p3 (p2 (p1 X)) ≤ 1085102592571150095 := and_le' _ _
  have b4 : p4 (p3 (p2 (p1 X))) ≤ 2170205185142300190 := by unfold p4; omega
  have b5 : p5 (p4 (p3 (p2 (p1 X)))) ≤ 4340410370284600380 := by unfold p5; omega
  exact ⟨b1, b2, b3, b4, b5⟩
theorem and127 (n : Nat) (h : n < 9223372036854775808) : bits .and .i64 (IntKind.i64.wrap (n : Int)) 127 = ((n % 128 : Nat) : Int) := by
  rw [IntWalk.i64_in _ (by omega)]
  show IntKind.i64.wrap ((BitVec.ofInt 64 (n : Int) &&& BitVec.ofInt 64 127).toNat : Int) = _
  rw [BitVec.toNat_and, show (127 : Int) = ((127 : Nat) : Int) by rfl, ofInt_u64 n (by omega), ofInt_u64 127 (by omega), show n &&& 127 = n % 128 from Nat.and_two_pow_sub_one_eq_mod n 7, IntWalk.i64_in _ (by omega)]
theorem pop_any (x : Int) (w : World) (h1 : 0 ≤ x) (h2 : x ≤ u64max) :
    Calls Tryz.prog 128 #[.int .u64 x] w fun r w' => r = .returned (.int .i64 (cnt x.toNat.testBit 64)) ∧ w = w' := by
  go_enter Tryz.func128, Tryz.ntmps128
  go_wp2
  go_ret
  refine ⟨ret_int ?_, rfl⟩
  obtain ⟨X, rfl⟩ := Int.eq_ofNat_of_zero_le h1
  unfold u64max at h2
  obtain ⟨b1, b2, b3, b4, b5⟩ := pop_all X (by omega)
  have e := pop_eq X (by omega)
  show bits .and .i64 (RowKit.wrap64 _) 127 = _
  rw [← IntWalk.i64_left]
  rw [i1 X (by omega), i2 _ (by omega), i3 _ b2, i4 _ (by omega), i5 _ (by omega), i6 _ (by omega), and127 _ e.2, e.1, Int.toNat_natCast]
end Go.Proofs.YthjbnbimfpbccaaGreatDoor
/-
  Plain facts on sets of places kept in words of 64 bits. No program here.
-/

set_option linter.unusedVariables false
namespace Go.Proofs.YthjbnbimfpbccaaGreatDoor
open Go.ChangeShapes Go.WideShapes Go.ChangeAt Go.RowKit
def bitsN (g : Nat → Bool) : Nat → Nat
  | 0 => 0
  | m + 1 => bitsN g m + if g m = true then 2 ^ m else 0
theorem bitsN_lt (g : Nat → Bool) : ∀ m, bitsN g m < 2 ^ m
  | 0 => by simp [bitsN]
  | m + 1 => by have := bitsN_lt g m; simp only [bitsN, Nat.pow_succ]; split <;> omega
theorem bitsN_test (g : Nat → Bool) : ∀ m j, (bitsN g m).testBit j = (decide (j < m) && g j)
  | 0, j => by simp [bitsN]
  | m + 1, j => by
    have hlt := bitsN_lt g m
    have ih := bitsN_test g m j
    simp only [bitsN]
    by_cases hg : g m = true
    · rw [if_pos hg, Nat.add_comm, show 2 ^ m + bitsN g m = 2 ^ m * 1 + bitsN g m by omega, Nat.testBit_two_pow_mul_add 1 hlt j]
      by_cases h1 : j < m
      · rw [if_pos h1, ih]; simp [h1, show j < m + 1 by omega]
      · rw [if_neg h1]
        by_cases h2 : j = m
        · subst h2; simp [hg]
        · have : ¬ j < m + 1 := by omega
          have h3 : Nat.testBit 1 (j - m) = false := Nat.testBit_lt_two_pow (Nat.one_lt_two_pow (by omega))
          simp [this, h3]
    · rw [if_neg hg, Nat.add_zero, ih]
      by_cases h2 : j = m
      · subst h2; simp at hg; simp [hg]
      · by_cases h1 : j < m
        · simp [h1, show j < m + 1 by omega]
        · simp [h1, show ¬ j < m + 1 by omega]
theorem bitsN_congr {g h : Nat → Bool} (m : Nat) (e : ∀ j, j < m → g j = h j) : bitsN g m = bitsN h m := by
  apply Nat.eq_of_testBit_eq
  intro j
  rw [bitsN_test, bitsN_test]
  by_cases hj : j < m
  · rw [e j hj]
  · simp [hj]
def wrd (f : Nat → Bool) (k : Nat) : Nat := bitsN (fun j => f (64 * k + j)) 64
theorem wrd_lt (f : Nat → Bool) (k : Nat) : wrd f k < 18446744073709551616 := bitsN_lt _ 64
theorem wrd_test (f : Nat → Bool) (k j : Nat) : (wrd f k).testBit j = (decide (j < 64) && f (64 * k + j)) := bitsN_test _ 64 j
def upd (f : Nat → Bool) (i : Nat) (b : Bool) : Nat → Bool := fun j => if j = i then b else f j
theorem wrd_other (f : Nat → Bool) (i : Nat) (b : Bool) (k : Nat) (h : k ≠ i / 64) : wrd (upd f i b) k = wrd f k :=
  bitsN_congr 64 fun j hj => by
    have hne : 64 * k + j ≠ i := by omega
    simp [upd, hne]
theorem wrd_set (f : Nat → Bool) (i : Nat) : wrd f (i / 64) ||| 2 ^ (i % 64) = wrd (upd f i true) (i / 64) := by
  apply Nat.eq_of_testBit_eq
  intro j
  rw [Nat.testBit_or, wrd_test, wrd_test, Nat.testBit_two_pow]
  unfold upd
  by_cases h : j = i % 64
  · subst h
    have : i % 64 < 64 := by omega
    simp [this, show 64 * (i / 64) + i % 64 = i by omega]
  · by_cases hj : j < 64
    · have h1 : 64 * (i / 64) + j ≠ i := by omega
      simp [h1, show ¬ i % 64 = j by omega]
    · simp [hj, show ¬ i % 64 = j by omega]
theorem test_not (x j : Nat) (hx : x < 2 ^ 64) (hj : j < 64) : (2 ^ 64 - 1 - x).testBit j = !x.testBit j := by
  rw [show 2 ^ 64 - 1 - x = 2 ^ 64 - (x + 1) by omega, Nat.testBit_two_pow_sub_succ hx]
  simp [hj]
theorem wrd_clr (f : Nat → Bool) (i : Nat) : wrd f (i / 64) &&& (18446744073709551615 - 2 ^ (i % 64)) = wrd (upd f i false) (i / 64) := by
  have hp : 2 ^ (i % 64) < 2 ^ 64 := Nat.pow_lt_pow_right (by omega) (by omega)
  apply Nat.eq_of_testBit_eq
  intro j
  rw [Nat.testBit_and, wrd_test, wrd_test]
  unfold upd
  by_cases hj : j < 64
  · rw [show (18446744073709551615 : Nat) = 2 ^ 64 - 1 by rfl, test_not _ _ hp hj, Nat.testBit_two_pow]
    by_cases h : j = i % 64
    · subst h
      simp [show 64 * (i / 64) + i % 64 = i by omega]
    · have h1 : 64 * (i / 64) + j ≠ i := by omega
      simp [h1, show ¬ i % 64 = j by omega]
  · simp [hj]
theorem wrd_get (f : Nat → Bool) (i : Nat) : ((wrd f (i / 64) / 2 ^ (i % 64)) &&& 1 == 1) = f i := by
  have h := wrd_test f (i / 64) (i % 64)
  have h2 : i % 64 < 64 := by omega
  rw [show 64 * (i / 64) + i % 64 = i by omega] at h
  simp only [h2, decide_true, Bool.true_and] at h
  rw [← h, Nat.testBit, Nat.shiftRight_eq_div_pow, Nat.and_comm 1]
  rw [show ∀ y : Nat, y &&& 1 = y % 2 from fun y => Nat.and_two_pow_sub_one_eq_mod y 1]
  rcases Nat.mod_two_eq_zero_or_one (wrd f (i / 64) / 2 ^ (i % 64)) with e | e <;> rw [e] <;> rfl
/-- The places of word k that stand between two ends. -/
def inw (a b k : Nat) : Nat := bitsN (fun j => decide (a ≤ 64 * k + j) && decide (64 * k + j < b)) 64
theorem inw_lt (a b k : Nat) : inw a b k < 18446744073709551616 := bitsN_lt _ 64
theorem inw_none (a b k : Nat) (h : b ≤ a ∨ b ≤ 64 * k ∨ 64 * k + 64 ≤ a) : inw a b k = 0 := by
  apply Nat.eq_of_testBit_eq
  intro j
  unfold inw
  rw [bitsN_test, Nat.zero_testBit]
  simp
  omega
/-- The mask as the program makes it. -/
theorem inw_mask (a b k l r : Nat) (hlr : l < r) (hr : r ≤ 64) (hl1 : l = a - 64 * k) (hr1 : r = min (b - 64 * k) 64) (hb : 64 * k ≤ b) :
    inw a b k = (2 ^ (r - l) - 1) * 2 ^ l := by
  apply Nat.eq_of_testBit_eq
  intro j
  unfold inw
  rw [bitsN_test, Nat.testBit_mul_two_pow, Nat.testBit_two_pow_sub_one]
  by_cases h1 : l ≤ j
  · by_cases h2 : j < r
    · have e1 : j < 64 := by omega
      have e2 : a ≤ 64 * k + j := by omega
      have e3 : 64 * k + j < b := by omega
      simp [e1, e2, e3, h1, show j - l < r - l by omega]
    · by_cases e1 : j < 64
      · have e3 : ¬ 64 * k + j < b := by omega
        simp [e3, show ¬ j - l < r - l by omega]
      · simp [e1, show ¬ j - l < r - l by omega]
  · have e2 : ¬ a ≤ 64 * k + j := by omega
    simp [e2, h1]
def clr (f : Nat → Bool) (a b : Nat) : Nat → Bool := fun i => f i && !(decide (a ≤ i) && decide (i < b))
def btw (f : Nat → Bool) (a b : Nat) : Nat → Bool := fun i => f i && (decide (a ≤ i) && decide (i < b))
theorem wrd_and (f : Nat → Bool) (a b k : Nat) : wrd f k &&& inw a b k = wrd (btw f a b) k := by
  apply Nat.eq_of_testBit_eq
  intro j
  unfold inw
  rw [Nat.testBit_and, bitsN_test, wrd_test, wrd_test]
  unfold btw
  by_cases hj : j < 64 <;> simp [hj]
theorem wrd_andNot (f : Nat → Bool) (a b k : Nat) : wrd f k &&& (18446744073709551615 - inw a b k) = wrd (clr f a b) k := by
  apply Nat.eq_of_testBit_eq
  intro j
  rw [Nat.testBit_and, wrd_test, wrd_test]
  by_cases hj : j < 64
  · rw [show (18446744073709551615 : Nat) = 2 ^ 64 - 1 by rfl, test_not _ _ (inw_lt a b k) hj]
    unfold inw clr
    rw [bitsN_test]
    simp [hj]
  · simp [hj]
theorem cnt_wrd (f : Nat → Bool) (k : Nat) : cnt (wrd f k).testBit 64 = cnt (fun j => f (64 * k + j)) 64 :=
  cnt_congr 64 fun i hi => by rw [wrd_test]; simp [hi]
theorem cnt_word (f : Nat → Bool) (k : Nat) : cnt f (64 * k) + cnt (wrd f k).testBit 64 = cnt f (64 * (k + 1)) := by
  rw [cnt_wrd, show 64 * (k + 1) = 64 * k + 64 by omega, cnt_add]
theorem wrd_zero (f : Nat → Bool) (k : Nat) : wrd f k = 0 ↔ ∀ j, j < 64 → f (64 * k + j) = false := by
  constructor
  · intro h j hj
    have := wrd_test f k j
    rw [h, Nat.zero_testBit] at this
    simpa [hj] using this.symm
  · intro h
    apply Nat.eq_of_testBit_eq
    intro j
    rw [wrd_test, Nat.zero_testBit]
    by_cases hj : j < 64
    · simp [hj, h j hj]
    · simp [hj]
/-- How many between two ends. -/
def cntB (f : Nat → Bool) (a b : Nat) : Nat := cnt (btw f a b) b
theorem cnt_out (g : Nat → Bool) (b m : Nat) (h : ∀ i, b ≤ i → g i = false) (hm : b ≤ m) : cnt g m = cnt g b := by
  obtain ⟨d, rfl⟩ : ∃ d, m = b + d := ⟨m - b, by omega⟩
  rw [cnt_add, cnt_zero _ d (fun i _ => h _ (by omega))]
  omega
theorem cntB_up (f : Nat → Bool) (a b m : Nat) (hm : b ≤ m) : cnt (btw f a b) m = cntB f a b :=
  cnt_out _ b m (fun i hi => by unfold btw; simp [show ¬ i < b by omega]) hm
theorem cntB_none (f : Nat → Bool) (a b : Nat) (h : b ≤ a) : cntB f a b = 0 :=
  cnt_zero _ b fun i hi => by unfold btw; simp; omega
/-- The words of a map of n places. -/
def wa (n : Nat) (f : Nat → Bool) : Array Value := ((List.range ((n + 63) / 64)).map fun k => Value.int .u64 (wrd f k)).toArray
theorem wa_size (n : Nat) (f : Nat → Bool) : (wa n f).size = (n + 63) / 64 := by simp [wa]
theorem wa_get (n : Nat) (f : Nat → Bool) (k : Nat) (h : k < (n + 63) / 64) : (wa n f)[k]? = some (.int .u64 (wrd f k)) := by
  unfold wa
  simp [List.getElem?_map, List.getElem?_range h]
theorem wa_set (n : Nat) (f g : Nat → Bool) (k : Nat) (v : Nat) (hv : v = wrd g k) (ho : ∀ j, j ≠ k → wrd g j = wrd f j) : (wa n f).setIfInBounds k (.int .u64 v) = wa n g := by
  subst hv
  refine Array.ext_getElem? fun i => ?_
  rw [Array.getElem?_setIfInBounds]
  by_cases hi : i < (n + 63) / 64
  · rw [wa_get n g i hi, wa_get n f i hi, wa_size]
    by_cases e : k = i
    · subst e; simp [hi]
    · rw [if_neg e, ho i (fun h => e h.symm)]
  · have h1 : (wa n g)[i]? = none := Array.getElem?_eq_none (by rw [wa_size]; omega)
    have h2 : (wa n f)[i]? = none := Array.getElem?_eq_none (by rw [wa_size]; omega)
    rw [h1, h2, wa_size]
    by_cases e : k = i
    · subst e; simp [hi]
    · rw [if_neg e]
theorem wa_new (n : Nat) : (wa n fun _ => false) = Array.replicate ((n + 63) / 64) (Value.int .u64 0) := by
  apply Array.ext
  · simp [wa]
  · intro i h1 h2
    simp only [wa, List.getElem_toArray, List.getElem_map, List.getElem_range, Array.getElem_replicate]
    rw [(wrd_zero (fun _ => false) i).2 fun _ _ => rfl]; rfl
end Go.Proofs.YthjbnbimfpbccaaGreatDoor
/-
  What the functions of tags compute: a map of n places at block p, its words at block g, holds the set f. Conditions: as stated.
-/


set_option linter.unusedVariables false
namespace Go.Proofs.YthjbnbimfpbccaaGreatDoor
open Go.ChangeShapes Go.WideShapes Go.ChangeAt Go.RowKit
def Tg (w : World) (p g n : Nat) (f : Nat → Bool) : Prop :=
  p ≠ g ∧ n ≤ 1048576 ∧ (∀ i, n ≤ i → f i = false) ∧ ∃ (c : Nat) (cs : Array Value), (n + 63) / 64 ≤ c ∧ At w p 179 #[.int .i64 n, .slice (some ⟨g, 0, none⟩) ((n + 63) / 64) c] ∧ At w g 28 cs ∧
    ∀ k, k < (n + 63) / 64 → cs[k]? = some (.int .u64 (wrd f k))
section
variable {w w' v : World} {p g n : Nat} {f : Nat → Bool} {S : List Nat}
theorem Tg.fr (h : Tg w p g n f) (hf : Fr S w w') (hp : p ∉ S) (hg : g ∉ S) : Tg w' p g n f := by
  obtain ⟨h1, h2, h3, c, cs, h4, h5, h6, h7⟩ := h
  exact ⟨h1, h2, h3, c, cs, h4, h5.fr hf hp, h6.fr hf hg, h7⟩
theorem Tg.frh (h : Tg w p g n f) (hf : Fr S v w') (hv : v.heap = w.heap) (hp : p ∉ S) (hg : g ∉ S) : Tg w' p g n f := by
  obtain ⟨h1, h2, h3, c, cs, h4, h5, h6, h7⟩ := h
  exact ⟨h1, h2, h3, c, cs, h4, h5.frh hf hv hp, h6.frh hf hv hg, h7⟩
theorem Tg.heap (h : Tg w p g n f) (hv : w'.heap = w.heap) : Tg w' p g n f := by
  unfold Tg At at *; rw [hv]; exact h
theorem Tg.drewN (h : Tg w p g n f) (m : Nat) : Tg (w.drewN m) p g n f := h.heap rfl
theorem Tg.lt (h : Tg w p g n f) : p < w.heap.size ∧ g < w.heap.size := by
  obtain ⟨h1, h2, h3, c, cs, h4, h5, h6, h7⟩ := h
  exact ⟨h5.lt, h6.lt⟩
theorem Tg.c0 (h : Tg w p g n f) : w.cell? ⟨p, 0, none⟩ = some (.int .i64 n) := by
  obtain ⟨h1, h2, h3, c, cs, h4, h5, h6, h7⟩ := h
  exact h5.cell 0
theorem Tg.c1 (h : Tg w p g n f) : ∃ c, (n + 63) / 64 ≤ c ∧ w.cell? ⟨p, 1, none⟩ = some (.slice (some ⟨g, 0, none⟩) ((n + 63) / 64) c) := by
  obtain ⟨h1, h2, h3, c, cs, h4, h5, h6, h7⟩ := h
  exact ⟨c, h4, h5.cell 1⟩
theorem Tg.ck (h : Tg w p g n f) (k : Nat) (hk : k < (n + 63) / 64) : w.cell? ⟨g, k, none⟩ = some (.int .u64 (wrd f k)) := by
  obtain ⟨h1, h2, h3, c, cs, h4, h5, h6, h7⟩ := h
  exact (h6.cell k).trans (h7 k hk)
theorem Tg.fk (h : Tg w p g n f) (k : Nat) : w.frozen? ⟨g, k, none⟩ = false := by
  obtain ⟨h1, h2, h3, c, cs, h4, h5, h6, h7⟩ := h
  exact h6.froz k
end
def inR (at_ : Int) (n : Nat) : Bool := decide (0 ≤ at_) && decide (at_ < n)

theorem infoU64 : (Tryz.prog.info? 28).map (fun i => (i.zero, i.size, i.bytes)) = some (some (.int .u64 0), 1, 8) := by kernel_rfl
theorem made_rep (z : Value) (n : Nat) : madeCells #[z] n = Array.replicate n z := by
  unfold madeCells
  refine Array.ext_getElem? fun i => ?_
  by_cases h : i < n <;> simp [h, Nat.mod_one]
theorem new_any (n : Nat) (w : World) (hn : n ≤ 1048576) :
    Calls Tryz.prog 69 #[.int .i64 n] w fun r w' => ∃ p g, r = .returned (.pointer (some ⟨p, 0, none⟩)) ∧ Tg w' p g n (fun _ => false) ∧ w.heap.size ≤ p ∧ w.heap.size ≤ g ∧ Fr [] w w' := by
  have hmk := run_make_row' (P := Tryz.prog) 177 28 (.int .u64 0) 8 Tryz.underlying177 infoU64 rfl .i64 .i64 ((n + 63) / 64) (by omega) (by omega)
  have hsz : ((n : Int) + 64 - 1) / 64 = (((n + 63) / 64 : Nat) : Int) := by omega
  obtain ⟨k, hk⟩ : ∃ k, k = (n + 63) / 64 := ⟨_, rfl⟩
  rw [← hk] at hmk hsz
  have Hk := Lib.hid hk
  clear hk
  go_enter Tryz.func69, Tryz.ntmps69
  go_wp2
  go_ret
  refine ⟨w.heap.size + 1, w.heap.size, rfl, ⟨by omega, hn, fun _ _ => rfl, k, Array.replicate k (.int .u64 0), by rw [Hk.out]; exact Nat.le_refl _, ?_, ?_, ?_⟩, by omega, by omega, ((Fr.refl _ _).alloc _).alloc _⟩
  · rw [← Hk.out]
    have := At.new (w.alloc (.cells (madeCells #[.int .u64 0] k) 28)) 179 #[.int .i64 n, .slice (some ⟨w.heap.size, 0, none⟩) k k]
    rw [World.size_alloc] at this
    exact this
  · refine At.old ?_ _
    rw [← made_rep]
    exact At.new _ _ _
  · intro i hi
    have := wa_get n (fun _ => false) i hi
    rw [wa_new] at this
    rw [Hk.out]
    exact this
theorem new_bad (n : Int) (w : World) (hn : n < 0 ∨ 1048576 < n) :
    Calls Tryz.prog 69 #[.int .i64 n] w fun r w' => r = .returned (.pointer none) ∧ w = w' := by
  rcases hn with h | h
  · go_enter Tryz.func69, Tryz.ntmps69
    go_wp2
    go_ret
    exact ⟨rfl, rfl⟩
  · have h2 : 0 ≤ n := by omega
    go_enter Tryz.func69, Tryz.ntmps69
    go_wp2
    go_ret
    exact ⟨rfl, rfl⟩
theorem len_any (w : World) (p g n : Nat) (f : Nat → Bool) (h : Tg w p g n f) :
    Calls Tryz.prog 95 #[.pointer (some ⟨p, 0, none⟩)] w fun r w' => r = .returned (.int .i64 n) ∧ w = w' := by
  have c0 := h.c0
  have hn := h.2.1
  go_enter Tryz.func95, Tryz.ntmps95
  go_wp2
  go_ret
  exact ⟨rfl, rfl⟩
theorem there_any (w : World) (p g n : Nat) (f : Nat → Bool) (h : Tg w p g n f) (i : Int) :
    Calls Tryz.prog 105 #[.pointer (some ⟨p, 0, none⟩), .int .i64 i] w fun r w' => r = .returned (.bool (inR i n)) ∧ w = w' := by
  have c0 := h.c0
  have hn := h.2.1
  by_cases h0 : 0 ≤ i
  · by_cases h1 : i < n
    · have e : inR i n = true := by simp [inR, h0, h1]
      rw [e]
      go_enter Tryz.func105, Tryz.ntmps105
      go_wp2
      go_ret
      exact ⟨rfl, rfl⟩
    · have e : inR i n = false := by simp [inR, h0, h1]
      rw [e]
      go_enter Tryz.func105, Tryz.ntmps105
      go_wp2
      go_ret
      exact ⟨rfl, rfl⟩
  · have e : inR i n = false := by simp [inR, h0]
    rw [e]
    go_enter Tryz.func105, Tryz.ntmps105
    go_wp2
    go_ret
    exact ⟨rfl, rfl⟩
theorem there_nil (w : World) (i : Int) :
    Calls Tryz.prog 105 #[.pointer none, .int .i64 i] w fun r w' => r = .returned (.bool false) ∧ w = w' := by
  go_enter Tryz.func105, Tryz.ntmps105
  go_wp2
  go_ret
  exact ⟨rfl, rfl⟩
theorem len_nil (w : World) : Calls Tryz.prog 95 #[.pointer none] w fun r w' => r = .returned (.int .i64 0) ∧ w = w' := by
  go_enter Tryz.func95, Tryz.ntmps95
  go_wp2
  go_ret
  exact ⟨rfl, rfl⟩
theorem inR_nat (i n : Nat) (h : i < n) : inR i n = true := by simp [inR, h]
theorem get_int (W e : Nat) (hW : W < 18446744073709551616) : (bits .and .u64 ((W : Int) / 2 ^ e) 1 == 1) = ((W / 2 ^ e &&& 1) == 1) := by
  have h1 : ((W : Int) / 2 ^ e) = ((W / 2 ^ e : Nat) : Int) := by simp
  have h2 : W / 2 ^ e < 18446744073709551616 := Nat.lt_of_le_of_lt (Nat.div_le_self _ _) hW
  rw [h1, show (1 : Int) = ((1 : Nat) : Int) by rfl, band _ _ h2 (by omega)]
  have : ∀ a : Nat, (((a : Nat) : Int) == ((1 : Nat) : Int)) = (a == 1) := fun a => by
    rw [Bool.eq_iff_iff]; simp; omega
  exact this _
theorem get_nil (w : World) (i : Int) :
    Calls Tryz.prog 67 #[.pointer none, .int .i64 i] w fun r w' => r = .returned (.bool false) ∧ w = w' := by
  go_enter Tryz.func67, Tryz.ntmps67
  go_wp2_with (go_at_call 105; refine (there_nil _ _).mono ?_; rintro e w' ⟨rfl, rfl⟩)
  go_ret
  exact ⟨rfl, rfl⟩
theorem get_any (w : World) (p g n : Nat) (f : Nat → Bool) (h : Tg w p g n f) (i : Int) :
    Calls Tryz.prog 67 #[.pointer (some ⟨p, 0, none⟩), .int .i64 i] w fun r w' => r = .returned (.bool (inR i n && f i.toNat)) ∧ w = w' := by
  have C := Lib.hid (there_any w p g n f h i)
  by_cases hi : inR i n = true
  · obtain ⟨i, rfl⟩ := Int.eq_ofNat_of_zero_le (show 0 ≤ i by simp [inR] at hi; omega)
    have hin : i < n := by simp [inR] at hi; omega
    rw [hi] at C
    have hn := h.2.1
    obtain ⟨cp, hcp, c1⟩ := h.c1
    have ck := h.ck (i / 64) (by omega)
    have hg := wrd_get f i
    have hl := wrd_lt f (i / 64)
    have Hg := Lib.hid (show (bits .and .u64 ((wrd f (i / 64) : Int) / 2 ^ (i % 64)) 1 == 1) = (inR i n && f i) by rw [get_int _ _ hl, hg, hi, Bool.true_and])
    have hl' : Hid (wrd f (i / 64) < 18446744073709551616) := Lib.hid hl
    clear hg hi hl
    generalize wrd f (i / 64) = W at *
    go_enter Tryz.func67, Tryz.ntmps67
    go_wp2_with (go_at_call 105; refine (C.out).mono ?_; rintro e w' ⟨rfl, rfl⟩)
    go_ret
    refine ⟨ret_bool ?_, rfl⟩
    rw [Int.toNat_natCast]
    exact Hg.out
  · simp only [Bool.not_eq_true] at hi
    rw [hi, Bool.false_and]
    rw [hi] at C
    go_enter Tryz.func67, Tryz.ntmps67
    go_wp2_with (go_at_call 105; refine (C.out).mono ?_; rintro e w' ⟨rfl, rfl⟩)
    go_ret
    exact ⟨rfl, rfl⟩
theorem shl_one (e : Nat) (h : e < 64) : IntKind.u64.wrap ((2 : Int) ^ e) = ((2 ^ e : Nat) : Int) := by
  have : 2 ^ e < 2 ^ 64 := Nat.pow_lt_pow_right (by omega) h
  rw [show (2 : Int) ^ e = ((2 ^ e : Nat) : Int) by simp, wrap_nat _ (by omega)]
theorem bor (a b : Nat) (ha : a < 18446744073709551616) (hb : b < 18446744073709551616) : bits .or .u64 (a : Int) (b : Int) = ((a ||| b : Nat) : Int) := u64_or_nat a b ha hb
theorem bnot (a b : Nat) (ha : a < 18446744073709551616) (hb : b < 18446744073709551616) : bits .andNot .u64 (a : Int) (b : Int) = ((a &&& (18446744073709551615 - b) : Nat) : Int) := u64_andNot_nat a b ha hb
theorem Tg.put {w : World} {p g n : Nat} {f f' : Nat → Bool} (h : Tg w p g n f) (k v : Nat) (hv : v = wrd f' k) (ho : ∀ j, j ≠ k → wrd f' j = wrd f j) (h0 : ∀ i, n ≤ i → f' i = false) :
    Tg (w.setCell ⟨g, k, none⟩ (.int .u64 v)) p g n f' := by
  obtain ⟨h1, h2, h3, c, cs, h4, h5, h6, h7⟩ := h
  refine ⟨h1, h2, h0, c, cs.setIfInBounds k (.int .u64 v), h4, h5.far (show p ≠ g from h1) _, h6.set k _, fun j hj => ?_⟩
  rw [Array.getElem?_setIfInBounds]
  by_cases e : k = j
  · subst e
    have hs : k < cs.size := by
      rcases Nat.lt_or_ge k cs.size with hl | hl
      · exact hl
      · have q := h7 k hj
        rw [Array.getElem?_eq_none hl] at q; cases q
    rw [if_pos rfl, if_pos hs, hv]
  · rw [if_neg e, h7 j hj, ho j (fun x => e x.symm)]
theorem put_nil (w : World) (i : Int) (b : Bool) :
    Calls Tryz.prog 63 #[.pointer none, .int .i64 i, .bool b] w fun r w' => r = .returned (.bool false) ∧ w = w' := by
  go_enter Tryz.func63, Tryz.ntmps63
  go_wp2_with (go_at_call 105; refine (there_nil _ _).mono ?_; rintro e w' ⟨rfl, rfl⟩)
  go_ret
  exact ⟨rfl, rfl⟩
theorem put_no (w : World) (p g n : Nat) (f : Nat → Bool) (h : Tg w p g n f) (i : Int) (b : Bool) (hi : inR i n = false) :
    Calls Tryz.prog 63 #[.pointer (some ⟨p, 0, none⟩), .int .i64 i, .bool b] w fun r w' => r = .returned (.bool false) ∧ w = w' := by
  have C := Lib.hid (there_any w p g n f h i)
  rw [hi] at C
  clear hi
  go_enter Tryz.func63, Tryz.ntmps63
  go_wp2_with (go_at_call 105; refine (C.out).mono ?_; rintro e w' ⟨rfl, rfl⟩)
  go_ret
  exact ⟨rfl, rfl⟩
theorem upd_out {n : Nat} {f : Nat → Bool} (h : ∀ i, n ≤ i → f i = false) (i : Nat) (b : Bool) (hi : i < n) : ∀ j, n ≤ j → upd f i b j = false := fun j hj => by
  unfold upd; rw [if_neg (by omega)]; exact h j hj
theorem put_yes (w : World) (p g n : Nat) (f : Nat → Bool) (h : Tg w p g n f) (i : Nat) (b : Bool) (hi : i < n) :
    Calls Tryz.prog 63 #[.pointer (some ⟨p, 0, none⟩), .int .i64 i, .bool b] w fun r w' => r = .returned (.bool true) ∧ Tg w' p g n (upd f i b) ∧ Fr [g] w w' := by
  have C := Lib.hid (there_any w p g n f h i)
  rw [inR_nat i n hi] at C
  have hn := h.2.1
  obtain ⟨cp, hcp, c1⟩ := h.c1
  have ck := h.ck (i / 64) (by omega)
  have fk := h.fk (i / 64)
  have hl := wrd_lt f (i / 64)
  have hsh := shl_one (i % 64) (by omega)
  have hp : 2 ^ (i % 64) < 18446744073709551616 := show 2 ^ (i % 64) < 2 ^ 64 from Nat.pow_lt_pow_right (by omega) (by omega)
  cases b
  · have hor := bnot _ _ hl hp
    have hw := Lib.hid (h.put (f' := upd f i false) (i / 64) _ (wrd_clr f i) (fun j hj => wrd_other f i false j hj) (upd_out h.2.2.1 i false hi))
    rw [← hsh] at hor
    generalize wrd f (i / 64) &&& (18446744073709551615 - 2 ^ (i % 64)) = V at *
    generalize wrd f (i / 64) = W at *
    clear hl hp hsh
    go_enter Tryz.func63, Tryz.ntmps63
    go_wp2_with (go_at_call 105; refine (C.out).mono ?_; rintro e w' ⟨rfl, rfl⟩)
    go_ret
    exact ⟨rfl, hw.out, (Fr.refl _ _).set (.inl (by simp)) _⟩
  · have hor := bor _ _ hl hp
    have hw := Lib.hid (h.put (f' := upd f i true) (i / 64) _ (wrd_set f i) (fun j hj => wrd_other f i true j hj) (upd_out h.2.2.1 i true hi))
    rw [← hsh] at hor
    generalize wrd f (i / 64) ||| 2 ^ (i % 64) = V at *
    generalize wrd f (i / 64) = W at *
    clear hl hp hsh
    go_enter Tryz.func63, Tryz.ntmps63
    go_wp2_with (go_at_call 105; refine (C.out).mono ?_; rintro e w' ⟨rfl, rfl⟩)
    go_ret
    exact ⟨rfl, hw.out, (Fr.refl _ _).set (.inl (by simp)) _⟩
theorem ones_div (e : Nat) (h : e ≤ 64) : 18446744073709551615 / 2 ^ e = 2 ^ (64 - e) - 1 := by
  have h1 : 18446744073709551616 = 2 ^ (64 - e) * 2 ^ e := by rw [← Nat.pow_add, show 64 - e + e = 64 by omega]
  have h2 : 0 < 2 ^ e := Nat.two_pow_pos e
  have h3 : 0 < 2 ^ (64 - e) := Nat.two_pow_pos _
  have h4 : 18446744073709551615 = (2 ^ e - 1) + (2 ^ (64 - e) - 1) * 2 ^ e := by
    rw [Nat.sub_mul, ← h1]
    have h5 : 2 ^ e ≤ 2 ^ 64 := Nat.pow_le_pow_right (by omega) h
    omega
  rw [h4, Nat.add_mul_div_right _ _ h2, Nat.div_eq_of_lt (by omega)]
  omega
theorem mask_int (l r e : Nat) (hlr : l < r) (hr : r ≤ 64) (he : e = 64 - (r - l)) : IntKind.u64.wrap ((18446744073709551615 : Int) / 2 ^ e * 2 ^ l) = (((2 ^ (r - l) - 1) * 2 ^ l : Nat) : Int) := by
  have h1 : ((18446744073709551615 : Int) / 2 ^ e * 2 ^ l) = ((18446744073709551615 / 2 ^ e * 2 ^ l : Nat) : Int) := by simp
  rw [h1, ones_div e (by omega), show 64 - e = r - l by omega]
  refine wrap_nat _ ?_
  have h2 : (2 ^ (r - l) - 1) * 2 ^ l < 2 ^ (r - l) * 2 ^ l := by
    have := Nat.two_pow_pos l
    have := Nat.two_pow_pos (r - l)
    exact Nat.mul_lt_mul_of_pos_right (by omega) (by omega)
  rw [← Nat.pow_add, show r - l + l = r by omega] at h2
  have h3 : 2 ^ r ≤ 2 ^ 64 := Nat.pow_le_pow_right (by omega) hr
  omega
theorem mask_at (l r e s : Nat) (hlr : l < r) (hr : r ≤ 64) (he : e = 64 - (r - l)) (hs : s = l) : IntKind.u64.wrap ((18446744073709551615 : Int) / 2 ^ e * 2 ^ s) = (((2 ^ (r - l) - 1) * 2 ^ l : Nat) : Int) := by
  subst hs; exact mask_int _ r e hlr hr he
theorem within_any (w : World) (P : Value) (a b k : Nat) (ha : a ≤ 1048576) (hb : b ≤ 1048576) (hk : 64 * k < b) (hab : a < b) (h2 : a < 64 * k + 64) :
    Calls Tryz.prog 144 #[P, .int .i64 k, .int .i64 a, .int .i64 b] w fun r w' => r = .returned (.int .u64 (inw a b k)) ∧ w = w' := by
  have Hm := Lib.hid (inw_mask a b k (a - 64 * k) (min (b - 64 * k) 64) (by omega) (by omega) rfl rfl (by omega))
  by_cases h1 : 64 * k ≤ a <;> by_cases h3 : 64 * k + 64 < b
  all_goals
    go_enter Tryz.func144, Tryz.ntmps144
    go_wp2
    all_goals go_ret
    refine ⟨ret_int ?_, rfl⟩
    rw [Hm.out]
  · refine mask_at (a - 64 * k) (min (b - 64 * k) 64) _ _ ?_ ?_ ?_ ?_ <;> omega
  · refine mask_at (a - 64 * k) (min (b - 64 * k) 64) _ _ ?_ ?_ ?_ ?_ <;> omega
  · rw [show a - 64 * k = 0 by omega, show min (b - 64 * k) 64 - 0 = 64 by omega]; rfl
  · have q := mask_at 0 (b - 64 * k) (64 - (b - k * 64)) 0 (by omega) (by omega) (by omega) rfl
    rw [Int.pow_zero, Int.mul_one] at q
    rw [q, show a - 64 * k = 0 by omega, show min (b - 64 * k) 64 = b - 64 * k by omega]
theorem cut_any (w : World) (p g n : Nat) (f : Nat → Bool) (h : Tg w p g n f) (a b : Int) :
    Calls Tryz.prog 143 #[.pointer (some ⟨p, 0, none⟩), .int .i64 a, .int .i64 b] w fun r w' => r = .returned (.tuple #[.int .i64 (max a 0), .int .i64 (min b n)]) ∧ w = w' := by
  have hn := h.2.1
  by_cases h1 : 0 ≤ a <;> by_cases h2 : b ≤ n
  all_goals
    first | rw [Int.max_eq_left (by omega)] | rw [Int.max_eq_right (by omega)]
  all_goals
    first | rw [Int.min_eq_left (by omega)] | rw [Int.min_eq_right (by omega)]
    go_enter Tryz.func143, Tryz.ntmps143
    go_wp2_with (go_at_call 95; refine (len_any w p g n f h).mono ?_; rintro e w' ⟨rfl, rfl⟩)
    go_ret2
    exact ⟨rfl, rfl⟩
theorem count_nil (w : World) : Calls Tryz.prog 94 #[.pointer none] w fun r w' => r = .returned (.int .i64 0) ∧ w = w' := by
  go_enter Tryz.func94, Tryz.ntmps94
  go_wp2
  go_ret
  exact ⟨rfl, rfl⟩
theorem count_any (w : World) (p g n : Nat) (f : Nat → Bool) (h : Tg w p g n f) :
    Calls Tryz.prog 94 #[.pointer (some ⟨p, 0, none⟩)] w fun r w' => r = .returned (.int .i64 (cnt f n)) ∧ w = w' := by
  have hn := h.2.1
  obtain ⟨cp, hcp, c1⟩ := h.c1
  have hk := Lib.hid h.ck
  have h0 := h.2.2.1
  have H0 := Lib.hid h0
  clear h h0
  go_enter Tryz.func94, Tryz.ntmps94
  go_wp2
  go_loop [3, 13] (fun t i => ∃ k : Nat, k ≤ (n + 63) / 64 ∧ i = .int .i64 k ∧ t = .int .i64 (cnt f (64 * k))) (fun _ i => (n + 63) / 64 - (intOf i).toNat)
  case atStart => exact ⟨0, by omega, rfl, rfl⟩
  case round =>
    obtain ⟨k, hkn, rfl, rfl⟩ := hrel
    have hle := cnt_le f (64 * k)
    by_cases hlt : k < (n + 63) / 64
    · have ck := hk.out k hlt
      have hw := wrd_lt f k
      have hs := Lib.hid (cnt_word f k)
      have hle2 := cnt_le (wrd f k).testBit 64
      have P := Lib.hid (fun w => pop_any (wrd f k : Int) w (by omega) (by unfold u64max; omega))
      simp only [Int.toNat_natCast] at P
      generalize cnt (wrd f k).testBit 64 = c at *
      generalize wrd f k = W at *
      clear hw
      go_wp2_with (go_at_call 128; refine (P.out _).mono ?_; rintro e w' ⟨rfl, rfl⟩)
      go_round
      case rel => exact ⟨k + 1, by omega, by go_num, by rw [← hs.out]; go_num⟩
      case measure => simp [intOf]; omega
    · go_wp2
      go_ret
      refine ⟨ret_int ?_, rfl⟩
      rw [cnt_out f n (64 * k) H0.out (by omega)]
def hit (f : Nat → Bool) (n : Nat) (a b : Int) : Nat := cntB f (max a 0).toNat (min b n).toNat
theorem cnt_mono (g : Nat → Bool) (a b : Nat) (h : a ≤ b) : cnt g a ≤ cnt g b := by
  obtain ⟨d, rfl⟩ : ∃ d, b = a + d := ⟨b - a, by omega⟩
  rw [cnt_add]; omega
theorem btw_low (f : Nat → Bool) (a b m : Nat) (h : m ≤ a) : cnt (btw f a b) m = 0 := cnt_zero _ m fun i hi => by unfold btw; simp [show ¬ a ≤ i by omega]
theorem cnt_of_word (g : Nat → Bool) (k : Nat) (h : wrd g k ≠ 0) (m : Nat) (hm : 64 * k + 64 ≤ m) : 0 < cnt g m := by
  have h1 : ¬ ∀ j, j < 64 → g (64 * k + j) = false := fun e => h ((wrd_zero g k).2 e)
  have h2 : ∃ j, j < 64 ∧ g (64 * k + j) = true := by
    apply Classical.byContradiction
    intro hne
    refine h1 fun j hj => ?_
    cases e : g (64 * k + j) with
    | false => rfl
    | true => exact (hne ⟨j, hj, e⟩).elim
  obtain ⟨j, hj, e⟩ := h2
  exact cnt_pos g m (64 * k + j) (by omega) e
theorem cnt_word0 (g : Nat → Bool) (k : Nat) (h : wrd g k = 0) : cnt g (64 * (k + 1)) = cnt g (64 * k) := by
  have := cnt_word g k
  rw [h] at this
  rw [← this]
  have : cnt (Nat.testBit 0) 64 = 0 := cnt_zero _ 64 fun i _ => Nat.zero_testBit i
  rw [this]; rfl
theorem clear_any (w : World) (p g n : Nat) (f : Nat → Bool) (h : Tg w p g n f) (a b : Int) :
    Calls Tryz.prog 123 #[.pointer (some ⟨p, 0, none⟩), .int .i64 a, .int .i64 b] w fun r w' => r = .returned (.int .i64 (hit f n a b)) ∧ Tg w' p g n (clr f (max a 0).toNat (min b n).toNat) ∧ Fr [g] w w' := by
  have hn := h.2.1
  have C := Lib.hid fun w h => cut_any w p g n f h a b
  unfold hit
  obtain ⟨A, hA⟩ := Int.eq_ofNat_of_zero_le (show 0 ≤ max a 0 by omega)
  obtain ⟨B, hB⟩ : ∃ B, min b n = B := ⟨_, rfl⟩
  have hBn : B ≤ n := by omega
  rw [hA, hB] at C ⊢
  clear hA hB
  simp only [Int.toNat_natCast]
  have hz0 : ∀ m, m ≤ A → clr f A m = f := fun m hm => funext fun i => by
    unfold clr
    by_cases h1 : A ≤ i
    · simp [show ¬ i < m by omega]
    · simp [h1]
  by_cases hAB : B ≤ A
  · have Hz := Lib.hid (hz0 B.toNat (by omega))
    have Hc := Lib.hid (cntB_none f A B.toNat (by omega))
    clear hz0
    have H := Lib.hid h
    go_enter Tryz.func123, Tryz.ntmps123
    go_wp2_with (go_at_call 143; refine (C.out _ h).mono ?_; rintro e w' ⟨rfl, rfl⟩)
    go_ret
    exact ⟨ret_int (by rw [Hc.out]; rfl), by rw [Hz.out]; exact H.out, Fr.refl _ _⟩
  · obtain ⟨B, rfl⟩ := Int.eq_ofNat_of_zero_le (show 0 ≤ B by omega)
    simp only [Int.toNat_natCast]
    have Hz := Lib.hid hz0
    have H := Lib.hid h
    have hd : decide ((B : Int) ≤ A) = false := by simp; omega
    have hd2 : decide (B ≤ A) = false := by simp; omega
    clear h hz0
    go_enter Tryz.func123, Tryz.ntmps123
    go_wp2_with (go_at_call 143; refine (C.out _ H.out).mono ?_; rintro e w' ⟨rfl, rfl⟩)
    clear C
    go_loopw [7, 8] (fun t i wr => ∃ k : Nat, k ≤ (n + 63) / 64 ∧ A / 64 ≤ k ∧ i = .int .i64 k ∧ t = .int .i64 (cnt (btw f A B) (64 * k)) ∧ Tg wr p g n (clr f A (min B (64 * k))) ∧ Fr [g] w wr) (fun _ i _ => (n + 63) / 64 - (intOf i).toNat)
    case atStart => exact ⟨A / 64, by omega, by omega, by simp, by rw [btw_low f A B _ (by omega)]; rfl, by rw [Hz.out _ (by omega)]; exact H.out, Fr.refl _ _⟩
    case round =>
      obtain ⟨k, hk, hAk, rfl, rfl, ht, hf⟩ := hrel
      have Ht := Lib.hid ht
      by_cases hlt : 64 * k < B
      · have hidx : k < (n + 63) / 64 := by omega
        obtain ⟨cp, hcp, c1⟩ := ht.c1
        have ck := ht.ck k hidx
        have fk := ht.fk k
        have ew : wrd (clr f A (min B (64 * k))) k = wrd f k := bitsN_congr 64 fun j hj => by
          unfold clr
          simp [show ¬ 64 * k + j < min B (64 * k) by omega]
        rw [ew] at ck
        have hand := band (wrd f k) (inw A B k) (wrd_lt f k) (inw_lt A B k)
        have hnot := bnot (wrd f k) (inw A B k) (wrd_lt f k) (inw_lt A B k)
        rw [wrd_and f A B k] at hand
        rw [wrd_andNot f A B k] at hnot
        have Hset := Lib.hid (ht.put (f' := clr f A (min B (64 * (k + 1)))) k (wrd (clr f A B) k) (bitsN_congr 64 fun j hj => by
            unfold clr
            by_cases h1 : 64 * k + j < B
            · simp [h1, show 64 * k + j < min B (64 * (k + 1)) by omega]
            · simp [h1, show ¬ 64 * k + j < min B (64 * (k + 1)) by omega])
          (fun i hi => bitsN_congr 64 fun j hj => by
            unfold clr
            by_cases h1 : 64 * i + j < min B (64 * k)
            · simp [h1, show 64 * i + j < min B (64 * (k + 1)) by omega]
            · simp [h1, show ¬ 64 * i + j < min B (64 * (k + 1)) by omega])
          (fun i hi => by unfold clr; rw [H.out.2.2.1 i hi]; rfl))
        have Ww := Lib.hid fun w P => within_any w P A B k (by omega) (by omega) hlt (by omega) (by omega)
        have hlt' : (k : Int) * 64 < B := by omega
        have hc := cnt_le (btw f A B) (64 * k)
        have hs := Lib.hid (cnt_word (btw f A B) k)
        have hle2 := cnt_le (wrd (btw f A B) k).testBit 64
        have P := Lib.hid (fun w => pop_any (wrd (btw f A B) k : Int) w (by omega) (by have := wrd_lt (btw f A B) k; unfold u64max; omega))
        simp only [Int.toNat_natCast] at P
        generalize cnt (wrd (btw f A B) k).testBit 64 = c at *
        generalize wrd (btw f A B) k = V at *
        generalize wrd (clr f A B) k = X at *
        generalize inw A B k = M at *
        generalize wrd f k = W at *
        clear ew ht
        go_wp2_with (first | (go_at_call 144; refine (Ww.out _ _).mono ?_; rintro e w' ⟨rfl, rfl⟩) | (go_at_call 128; refine (P.out _).mono ?_; rintro e w' ⟨rfl, rfl⟩))
        go_roundw
        case rel => exact ⟨k + 1, by omega, by omega, by go_num, by rw [← hs.out]; go_num, Hset.out, hf.set (.inl (by simp)) _⟩
        case measure => simp [intOf]; omega
      · have hlt' : ¬ (k : Int) * 64 < B := by omega
        go_wp2
        go_ret
        refine ⟨ret_int ?_, ?_, hf⟩
        · show ((cnt (btw f A B) (64 * k) : Nat) : Int) = _
          rw [cntB_up f A B (64 * k) (by omega)]
        · have := Ht.out
          rw [show min B (64 * k) = B by omega] at this
          exact this
end Go.Proofs.YthjbnbimfpbccaaGreatDoor
/-
  Copy of tags, over slices.Clone. Condition: none beside the map's own.
-/


set_option linter.unusedVariables false
namespace Go.Proofs.YthjbnbimfpbccaaGreatDoor
open Go.ChangeShapes Go.WideShapes Go.ChangeAt Go.RowKit
theorem infoU64c : (Tryz.prog.info? 28).map (fun i => (i.zero, i.size, i.bytes)) = some (some (.int .u64 0), 1, 8) := by kernel_rfl
theorem own_empty (w : World) (e : TypeId) (size : Nat) : (w.alloc (.cells #[] e)).ownsRow w.heap.size e size (.slice (some ⟨w.heap.size, 0, none⟩) 0 0) 0 [] :=
  ⟨by simp, .inr ⟨w.heap.size, 0, #[], rfl, Nat.le_refl _, heap_alloc_new w _, Nat.le_refl _, Nat.zero_le _, by simp, by simp⟩⟩
theorem own_out {w : World} {base : Nat} {e : TypeId} {v : Value} {n : Nat} {xs : List Value} (h : w.ownsRow base e 1 v n xs) (hv : v ≠ .slice none 0 0) :
    ∃ (g c : Nat) (cs : Array Value), v = .slice (some ⟨g, 0, none⟩) n c ∧ n ≤ c ∧ base ≤ g ∧ At w g e cs ∧ ∀ k, k < xs.length → cs[k]? = xs[k]? := by
  obtain ⟨hl, ⟨h1, _⟩ | ⟨g, c, cs, h1, h2, h3, h4, h5, h6, h7⟩⟩ := h
  · exact (hv h1).elim
  · refine ⟨g, c, cs, h1, h4, h2, h3, fun k hk => ?_⟩
    rw [← h7, List.getElem?_take, if_pos (by omega)]
    simp
set_option maxRecDepth 100000 in
/-- slices.Clone of n words: a new slice over new memory. -/
theorem clone_any (w : World) (g n c : Nat) (cs : Array Value) (h : At w g 28 cs) (hn : n ≤ 16384) (hc : n ≤ c) (hcs : ∀ k, k < n → ∃ x : Nat, cs[k]? = some (.int .u64 x)) :
    Calls Tryz.prog 145 #[.slice (some ⟨g, 0, none⟩) n c] w fun r w' => ∃ (g' c' : Nat) (cs' : Array Value), r = .returned (.slice (some ⟨g', 0, none⟩) n c') ∧ n ≤ c' ∧ w.heap.size ≤ g' ∧ At w' g' 28 cs' ∧ (∀ k, k < n → cs'[k]? = cs[k]?) ∧ Fr [] w w' := by
  obtain ⟨i0, hi, hz0, hz1, hz2⟩ := info_parts infoU64c
  have hlen : n ≤ cs.size := by
    rcases Nat.eq_zero_or_pos n with e | e
    · omega
    · obtain ⟨x, hx⟩ := hcs (n - 1) (by omega)
      rcases Nat.lt_or_ge (n - 1) cs.size with h1 | h1
      · omega
      · rw [Array.getElem?_eq_none h1] at hx; cases hx
  have hcell := Lib.hid fun (W : World) (f : Fr [] w W) j u (hu : (cs.toList.take n)[j]? = some u) => show W.cell? ((⟨g, 0, none⟩ : Addr).add j) = some u by
    have hj : j < n := by
      rcases Nat.lt_or_ge j n with h1 | h1
      · exact h1
      · rw [List.getElem?_eq_none (by simp; omega)] at hu; cases hu
    rw [Go.WideShapes.add_plain, Nat.zero_add, (h.fr f (by simp)).cell j]
    rw [List.getElem?_take] at hu
    simpa [hj] using hu
  have hone : Hid (∀ u ∈ cs.toList.take n, u.oneCell' = true) := Lib.hid fun u hu => by
    obtain ⟨j, hj, e⟩ := List.getElem_of_mem hu
    have hjn : j < n := by simp at hj; omega
    obtain ⟨x, hx⟩ := hcs j hjn
    simp at e
    have : cs[j]? = some u := by rw [← e]; simp
    rw [this] at hx; injection hx with hx; subst hx; rfl
  have hl1 : Hid ((cs.toList.take n).length = n * 1) := Lib.hid (by simp; omega)
  have H := Lib.hid h
  have Hcs := Lib.hid hcs
  clear h hcs
  have heq := fun W : World => Lib.run_eql_slice_nil (P := Tryz.prog) W 177 28 (some ⟨g, 0, none⟩) n c 0 0 Tryz.underlying177
  simp only [Option.isNone_some] at heq
  go_enter Tryz.func145, Tryz.ntmps145
  have hown0 := Lib.hid (own_empty w 28 1)
  have hnews := Lib.hid (hcell.out (w.alloc (.cells #[] 28)) ((Fr.refl _ _).alloc _))
  go_wp2_with (at_builtin; refine wpList_append_own_at _ rfl (.tmp 5) (.tmp 6) 177 rfl w.heap.size 28 i0 (.int .u64 0) 1 8 Tryz.underlying177 hi hz0 hz1 hz2 rfl (by omega) (.slice (some ⟨w.heap.size, 0, none⟩) 0 0) 0 [] rfl hown0.out ⟨g, 0, none⟩ n c (cs.toList.take n) rfl hl1.out hnews.out hone.out (by unfold maxLen; omega) (by omega) (by simp) ?_; intro v1 w1 hown1 hg1 hnil hat1)
  go_ret
  obtain ⟨g', c', cs', e1, e2, e3, e4, e5⟩ := own_out hown1 (fun e => by have := hnil.1 e; simp at this)
  refine ⟨g', c', cs', by rw [← Nat.zero_add n]; exact congrArg Ending.returned e1, by omega, e3, e4, fun k hk => ?_, ?_⟩
  · rw [e5 k (by simp; omega)]
    simp [hk]
  · exact ((Fr.refl [] w).alloc _).trans (Fr.grown hg1) (by simp [Value.ownBlock])
theorem copy_nil (w : World) : Calls Tryz.prog 126 #[.pointer none] w fun r w' => r = .returned (.pointer none) ∧ w = w' := by
  go_enter Tryz.func126, Tryz.ntmps126
  go_wp2
  go_ret
  exact ⟨rfl, rfl⟩
theorem copy_any (w : World) (p g n : Nat) (f : Nat → Bool) (h : Tg w p g n f) :
    Calls Tryz.prog 126 #[.pointer (some ⟨p, 0, none⟩)] w fun r w' => ∃ p' g', r = .returned (.pointer (some ⟨p', 0, none⟩)) ∧ Tg w' p' g' n f ∧ w.heap.size ≤ p' ∧ w.heap.size ≤ g' ∧ Fr [] w w' := by
  obtain ⟨h1, h2, h3, c, cs, h4, h5, h6, h7⟩ := h
  have c0 := h5.cell 0
  have c1 := h5.cell 1
  simp only [List.getElem?_toArray, List.getElem?_cons_zero, List.getElem?_cons_succ] at c0 c1
  have C := Lib.hid fun (W : World) (hW : W.heap = w.heap) => clone_any W g ((n + 63) / 64) c cs (by unfold At; rw [hW]; exact h6) (by omega) h4 (fun k hk => ⟨_, h7 k hk⟩)
  have H5 := Lib.hid h5
  have H7 := Lib.hid h7
  have H3 := Lib.hid h3
  have hpl := h5.lt
  clear h5 h6 h7 h3
  go_enter Tryz.func126, Tryz.ntmps126
  go_wp2
  go_region_with (go_at_call 145; refine (C.out w.drew rfl).mono ?_; rintro e w1 ⟨g', c', cs', rfl, e2, e3, e4, e5, hf1⟩; have d0 := (H5.out.frh hf1 rfl (by simp)).cell 0; simp only [List.getElem?_toArray, List.getElem?_cons_zero] at d0)
  all_goals go_wp2
  all_goals go_ret
  all_goals
    have hlt := e4.lt
    have hs := hf1.size
    have hs : w.heap.size ≤ w1.heap.size := hs
    have e3 : w.heap.size ≤ g' := e3
    exact ⟨w1.heap.size, g', rfl, ⟨by omega, h2, H3.out, c', cs', e2, At.new _ _ _, e4.old _, fun k hk => (e5 k hk).trans (H7.out k hk)⟩, hs, e3, (Fr.hd (w := w) hf1 rfl rfl rfl rfl).alloc _⟩
end Go.Proofs.YthjbnbimfpbccaaGreatDoor
/-
  What the small functions of paint compute: a paint at block pp over a map of tags. Condition: at most 16384 granules.
-/



set_option linter.unusedVariables false
namespace Go.Proofs.YthjbnbimfpbccaaGreatDoor
open Go.ChangeShapes Go.WideShapes Go.ChangeAt Go.RowKit
def Pt (w : World) (pp p g n : Nat) (f : Nat → Bool) : Prop := At w pp 204 #[.pointer (some ⟨p, 0, none⟩)] ∧ Tg w p g n f ∧ pp ≠ p ∧ pp ≠ g ∧ n ≤ 16384
section
variable {w w' v : World} {pp p g n : Nat} {f f' : Nat → Bool} {S : List Nat}
theorem Pt.c (h : Pt w pp p g n f) : w.cell? ⟨pp, 0, none⟩ = some (.pointer (some ⟨p, 0, none⟩)) := h.1.cell 0
theorem Pt.fr (h : Pt w pp p g n f) (hf : Fr S w w') (h1 : pp ∉ S) (h2 : p ∉ S) (h3 : g ∉ S) : Pt w' pp p g n f := ⟨h.1.fr hf h1, h.2.1.fr hf h2 h3, h.2.2⟩
theorem Pt.put (h : Pt w pp p g n f) (hf : Fr [g] w w') (ht : Tg w' p g n f') : Pt w' pp p g n f' := ⟨h.1.fr hf (by simp; exact h.2.2.2.1), ht, h.2.2⟩
theorem Pt.heap (h : Pt w pp p g n f) (hv : w'.heap = w.heap) : Pt w' pp p g n f := by unfold Pt Tg At at *; rw [hv]; exact h
theorem Pt.drewN (h : Pt w pp p g n f) (m : Nat) : Pt (w.drewN m) pp p g n f := h.heap rfl
theorem Pt.lt (h : Pt w pp p g n f) : pp < w.heap.size ∧ p < w.heap.size ∧ g < w.heap.size := ⟨h.1.lt, h.2.1.lt⟩
end
theorem ptnone_any (w : World) (pp p g n : Nat) (f : Nat → Bool) (h : Pt w pp p g n f) :
    Calls Tryz.prog 125 #[.pointer (some ⟨pp, 0, none⟩)] w fun r w' => r = .returned (.bool false) ∧ w = w' := by
  have c := h.c
  go_enter Tryz.func125, Tryz.ntmps125
  go_wp2
  go_ret
  exact ⟨rfl, rfl⟩
theorem ptnone_nil (w : World) : Calls Tryz.prog 125 #[.pointer none] w fun r w' => r = .returned (.bool true) ∧ w = w' := by
  go_enter Tryz.func125, Tryz.ntmps125
  go_wp2
  go_ret
  exact ⟨rfl, rfl⟩
theorem ptnew_any (n : Nat) (w : World) (hn : n ≤ 16384) :
    Calls Tryz.prog 110 #[.int .i64 (16 * n : Nat)] w fun r w' => ∃ pp p g, r = .returned (.pointer (some ⟨pp, 0, none⟩)) ∧ Pt w' pp p g n (fun _ => false) ∧ w.heap.size ≤ pp ∧ w.heap.size ≤ p ∧ w.heap.size ≤ g ∧ Fr [] w w' := by
  obtain ⟨b, hb⟩ : ∃ b, 16 * n = b := ⟨_, rfl⟩
  have C := Lib.hid fun w => new_any n w (by omega)
  have e1 : (b : Int) / 16 = n := by omega
  have e2 : ((b : Int) % 16 != 0) = false := by simp; omega
  rw [hb]
  have hb2 : b ≤ 262144 := by omega
  clear hb
  go_enter Tryz.func110, Tryz.ntmps110
  go_wp2_with (go_at_call 69; refine (C.out _).mono ?_; rintro e w2 ⟨p, g, rfl, h2, hp, hg, hf2⟩)
  go_ret
  have hs := hf2.size
  have hl := h2.lt
  exact ⟨w2.heap.size, p, g, rfl, ⟨At.new _ _ _, h2.fr (S := []) ((Fr.refl _ _).alloc _) (by simp) (by simp), by omega, by omega, hn⟩, hs, hp, hg, hf2.alloc _⟩
theorem ptnew_bad (n : Int) (w : World) (hn : n < 0 ∨ ¬ n % 16 = 0 ∨ 262144 < n) :
    Calls Tryz.prog 110 #[.int .i64 n] w fun r w' => r = .returned (.pointer none) ∧ w = w' := by
  by_cases h0 : n < 0
  · clear hn
    go_enter Tryz.func110, Tryz.ntmps110
    go_wp2
    go_ret
    exact ⟨rfl, rfl⟩
  · by_cases h1 : n % 16 = 0
    · have h2 : 262144 < n := by omega
      have h0' : 0 ≤ n := by omega
      have e1 : (n % 16 != 0) = false := by simp; omega
      clear hn h1
      go_enter Tryz.func110, Tryz.ntmps110
      go_wp2
      go_ret
      exact ⟨rfl, rfl⟩
    · have h0' : 0 ≤ n := by omega
      have e1 : (n % 16 != 0) = true := by simp; omega
      clear hn h1
      go_enter Tryz.func110, Tryz.ntmps110
      go_wp2
      go_ret
      exact ⟨rfl, rfl⟩
def hasP (n : Nat) (f : Nat → Bool) (a : Int) : Bool := inR (a / 16) n && f (a / 16).toNat
theorem pthas_any (w : World) (pp p g n : Nat) (f : Nat → Bool) (h : Pt w pp p g n f) (a : Int) (ha : 0 ≤ a) (ha2 : a ≤ 4294967295) :
    Calls Tryz.prog 99 #[.pointer (some ⟨pp, 0, none⟩), .int .u32 a] w fun r w' => r = .returned (.bool (hasP n f a)) ∧ w = w' := by
  have c := h.c
  have C := Lib.hid (get_any w p g n f h.2.1 (a / 16))
  have H := Lib.hid h
  unfold hasP
  clear h
  generalize (inR (a / 16) n && f (a / 16).toNat) = b at *
  go_enter Tryz.func99, Tryz.ntmps99
  go_wp2_with (first | (go_at_call 125; refine (ptnone_any _ _ _ _ _ _ H.out).mono ?_; rintro e w' ⟨rfl, rfl⟩) | (go_at_call 67; refine (C.out).mono ?_; rintro e w' ⟨rfl, rfl⟩))
  go_ret
  exact ⟨rfl, rfl⟩
theorem pthas_nil (w : World) (a : Int) :
    Calls Tryz.prog 99 #[.pointer none, .int .u32 a] w fun r w' => r = .returned (.bool false) ∧ w = w' := by
  go_enter Tryz.func99, Tryz.ntmps99
  go_wp2_with (go_at_call 125; refine (ptnone_nil _).mono ?_; rintro e w' ⟨rfl, rfl⟩)
  go_ret
  exact ⟨rfl, rfl⟩
theorem ptcopy_nil (w : World) : Calls Tryz.prog 91 #[.pointer none] w fun r w' => r = .returned (.pointer none) ∧ w = w' := by
  go_enter Tryz.func91, Tryz.ntmps91
  go_wp2_with (go_at_call 125; refine (ptnone_nil _).mono ?_; rintro e w' ⟨rfl, rfl⟩)
  go_ret
  exact ⟨rfl, rfl⟩
theorem ptcopy_any (w : World) (pp p g n : Nat) (f : Nat → Bool) (h : Pt w pp p g n f) :
    Calls Tryz.prog 91 #[.pointer (some ⟨pp, 0, none⟩)] w fun r w' => ∃ pp' p' g', r = .returned (.pointer (some ⟨pp', 0, none⟩)) ∧ Pt w' pp' p' g' n f ∧ w.heap.size ≤ pp' ∧ w.heap.size ≤ p' ∧ w.heap.size ≤ g' ∧ Fr [] w w' := by
  have c := h.c
  have H := Lib.hid h
  have C := Lib.hid (copy_any w p g n f h.2.1)
  clear h
  go_enter Tryz.func91, Tryz.ntmps91
  go_wp2_with (first | (go_at_call 125; refine (ptnone_any _ _ _ _ _ _ H.out).mono ?_; rintro e w' ⟨rfl, rfl⟩) | (go_at_call 126; refine (C.out).mono ?_; rintro e w2 ⟨p', g', rfl, h2, hp, hg, hf2⟩))
  go_ret
  have hs := hf2.size
  have hl := h2.lt
  exact ⟨w2.heap.size, p', g', rfl, ⟨At.new _ _ _, h2.fr (S := []) ((Fr.refl _ _).alloc _) (by simp) (by simp), by omega, by omega, H.out.2.2.2.2⟩, hs, hp, hg, hf2.alloc _⟩
/-! ### all -/
def allB : List Bool → Bool
  | [] => true
  | b :: l => b && allB l
theorem allB_drop (l : List Bool) (k : Nat) (h : k < l.length) : allB (l.drop k) = (l[k] && allB (l.drop (k + 1))) := by
  rw [List.drop_eq_getElem_cons h]; rfl
theorem all_any (w : World) (b : Nat) (l : List Bool) (h : At w b 4 (l.map Value.bool).toArray) (hl : l.length ≤ 1000) :
    Calls Tryz.prog 148 #[.slice (some ⟨b, 0, none⟩) l.length l.length] w fun r w' => r = .returned (.bool (allB l)) ∧ w = w' := by
  have hc := Lib.hid fun k (hk : k < l.length) => show w.cell? ⟨b, k, none⟩ = some (.bool l[k]) by rw [h.cell k]; simp [hk]
  have H0 := Lib.hid (show allB (l.drop 0) = allB l by simp)
  obtain ⟨n, hn⟩ : ∃ n, l.length = n := ⟨_, rfl⟩
  have HN := Lib.hid hn
  rw [hn] at hl ⊢
  clear h hn
  go_enter Tryz.func148, Tryz.ntmps148
  go_wp2
  go_loop [7] (fun i => ∃ k : Nat, k ≤ n ∧ i = .int .i64 k ∧ allB (l.drop k) = allB l) (fun i => n - (intOf i).toNat)
  case atStart => exact ⟨0, by omega, rfl, H0.out⟩
  case round =>
    obtain ⟨k, hk, rfl, ha⟩ := hrel
    have HA := Lib.hid ha
    clear ha
    by_cases hkn : k < n
    · have hc1 := hc.out k (by rw [HN.out]; exact hkn)
      have HD := Lib.hid (allB_drop l k (by rw [HN.out]; exact hkn))
      obtain ⟨x, hx⟩ : ∃ x, l[k]'(by rw [HN.out]; exact hkn) = x := ⟨_, rfl⟩
      rw [hx] at hc1 HD
      clear hx
      cases x
      · go_wp2
        go_ret
        refine ⟨ret_bool ?_, rfl⟩
        rw [← HA.out, HD.out]; rfl
      · go_wp2
        go_round
        case rel => exact ⟨k + 1, by omega, by go_num, by rw [← HA.out, HD.out]; simp⟩
        case measure => simp [intOf]; omega
    · have hkn2 : n ≤ k := by omega
      have HE : Hid (allB (l.drop k) = true) := Lib.hid (by rw [List.drop_of_length_le (by rw [HN.out]; exact hkn2)]; rfl)
      go_wp2
      go_ret
      exact ⟨ret_bool (by rw [← HA.out, HE.out]), rfl⟩
theorem gran_any (w : World) (a s : Int) :
    Calls Tryz.prog 149 #[.agg #[.int .u32 a, .int .u32 s]] w fun r w' => r = .returned (.func (.func 157) #[] #[.pointer (some ⟨w.heap.size, 0, none⟩)]) ∧ w' = w.alloc (.cells #[.int .u32 a, .int .u32 s] 45) := by
  go_enter Tryz.func149, Tryz.ntmps149
  go_wp2
  go_ret
  exact ⟨rfl, rfl⟩
end Go.Proofs.YthjbnbimfpbccaaGreatDoor
/-
  Small words for a range over a function: what a caller's invariant abides (blocks of cells that are known whole; the frame), what a body has to keep. No condition.
-/

set_option linter.unusedVariables false
namespace Go.Proofs.YthjbnbimfpbccaaGreatDoor
open Go.ChangeShapes Go.WideShapes Go.ChangeAt Go.RowKit
/-- Whatever block of cells is known whole abides. -/
def AtK (W W' : World) : Prop := ∀ q t cs, At W q t cs → At W' q t cs
theorem atK_grown {W W' : World} {row : Option Nat} (hg : W.grownBy W' row) (hr : ∀ r, row = some r → ∃ o : Obj, W.heap[r]? = some o ∧ o.isCells = false) : AtK W W' := fun _ _ _ h => by
  unfold At at *
  rw [grownBy_keeps_cells hg hr h rfl]; exact h
/-- One block of cells abides: what an iterator asks that reads that block between two rounds. -/
def KpAt (q : Nat) (W W' : World) : Prop := ∀ t cs, At W q t cs → At W' q t cs
theorem kpAt_t {q : Nat} {A B C : World} (h : KpAt q A B) (k : KpAt q B C) : KpAt q A C := fun t cs x => k t cs (h t cs x)
theorem kpAt_b {q : Nat} {w : World} (W : World) (l : Nat) (o o' : Obj) (_ : w.heap.size ≤ l) (h : W.heap[l]? = some o) (hc : o.isCells = false) (_ : o.isWalk = false) : KpAt q W (W.putObj l o') := fun t cs x => by
  have hne : q ≠ l := by
    intro e
    subst e
    unfold At at x
    rw [h] at x
    injection x with x
    subst x
    cases hc
  unfold At at *
  rw [World.putObj_heap_other hne]; exact x
theorem kpAt_fr {q : Nat} {S : List Nat} {W W' : World} (f : Fr S W W') (h : q ∉ S) : KpAt q W W' := fun _ _ x => x.fr f h
/-- Some blocks of cells abide. -/
def KpB (bs : List Nat) (W W' : World) : Prop := ∀ b ∈ bs, ∀ cs t r, W.heap[b]? = some (.cells cs t r) → W'.heap[b]? = some (.cells cs t r)
theorem kpB_t {bs : List Nat} {A B C : World} (h : KpB bs A B) (k : KpB bs B C) : KpB bs A C := fun b hb cs t r x => k b hb cs t r (h b hb cs t r x)
theorem kpB_b {bs : List Nat} {w : World} (W : World) (l : Nat) (o o' : Obj) (_ : w.heap.size ≤ l) (h : W.heap[l]? = some o) (hc : o.isCells = false) (_ : o.isWalk = false) : KpB bs W (W.putObj l o') := fun b _ cs t r x => by
  have hne : b ≠ l := by
    rintro rfl
    rw [h] at x
    injection x with x
    subst x
    cases hc
  rw [World.putObj_heap_other hne]; exact x
theorem kpB_fr {bs S : List Nat} {W W' : World} (f : Fr S W W') (h : ∀ b ∈ bs, b ∉ S) : KpB bs W W' := fun b hb _ _ _ x => (f.keep b (Array.getElem?_eq_some_iff.1 x).1 (h b hb)).trans x
theorem KpB.at_ {bs : List Nat} {W W' : World} (h : KpB bs W W') {q : Nat} {t : TypeId} {cs : Array Value} (hq : q ∈ bs) (ha : At W q t cs) : At W' q t cs := h q hq _ _ _ ha
/-- A frame abides the turn of a block that lies beyond. -/
theorem Fr.row {S : List Nat} {w W W' : World} {row : Option Nat} (f : Fr S w W) (hg : W.grownBy W' row) {B : Nat} (hB : w.heap.size ≤ B) (hr : ∀ r, row = some r → B ≤ r ∧ ∃ o : Obj, W.heap[r]? = some o ∧ o.isCells = false) : Fr S w W' :=
  f.trans (Fr.grown hg) (fun k hk => by
    cases row with
    | none => simp at hk
    | some r => simp at hk; subst hk; exact .inr (Nat.le_trans hB (hr _ rfl).1))
theorem Fr.keepsFrom {S : List Nat} {W W' : World} (f : Fr S W W') (hS : ∀ k ∈ S, ∃ t cs, At W k t cs) : KeepsOthers W W' :=
  ⟨f.size, fun k o hk hc => by
    rw [f.keep k (Array.getElem?_eq_some_iff.1 hk).1 (fun hkS => by
      obtain ⟨t, cs, h⟩ := hS k hkS
      unfold At at h
      rw [hk] at h
      injection h with h
      subst h
      cases hc)]
    exact hk⟩
theorem Fr.putObj {S : List Nat} {w W : World} (f : Fr S w W) (l : Nat) (o : Obj) (hl : w.heap.size ≤ l) : Fr S w (W.putObj l o) :=
  f.trans (Fr.grown (grownBy_putObj' W l o)) (fun k hk => by simp at hk; subst hk; exact .inr hl)
theorem At.putObj {W : World} {q : Nat} {t : TypeId} {cs : Array Value} {l : Nat} (o : Obj) (h : At W q t cs) (hl : q ≠ l) : At (W.putObj l o) q t cs := by
  unfold At at *
  rw [World.putObj_heap_other hl]; exact h
theorem At.ne {V : World} {q D : Nat} {t : TypeId} {cs : Array Value} {o : Obj} (h : At V q t cs) (hK : V.heap[D]? = some o) (ho : o.isCells = false) : q ≠ D := by
  rintro rfl
  unfold At at h
  rw [hK] at h
  injection h with h
  subst h
  cases ho
theorem atK_put {V : World} {D : Nat} {o : Obj} (o' : Obj) (hK : V.heap[D]? = some o) (ho : o.isCells = false) : AtK V (V.putObj D o') := fun _ _ _ h => h.putObj _ (h.ne hK ho)
theorem atK_fr {V V' : World} (f : Fr [] V V') : AtK V V' := fun _ _ _ h => h.fr f (by simp)
/-! ### a region that draws its order, in a round -/
def noDefer (ops : Array Oper) : Bool := ops.all fun o => match o.op with | .defer _ => false | _ => true
theorem noDefer_spec {ops : Array Oper} (h : noDefer ops = true) {i : Nat} {o : Oper} (ho : ops[i]? = some o) (c : Call) : o.op ≠ .defer c := fun e => by
  unfold noDefer at h
  rw [Array.all_eq_true] at h
  obtain ⟨hi, he⟩ := Array.getElem?_eq_some_iff.1 ho
  have := h i hi
  rw [he, e] at this
  cases this
theorem oper_round {r n : Nat} {P : Program} {o : Oper} {a : Act} {w : World} {K K' : Act → World → Prop} {Q : Exit → Act → World → Prop} (hd : ∀ c, o.op ≠ .defer c) (hQ : ¬ LetsOut Q) (hK : ∀ a w, K a w → K' a w)
    (h : o.wp P a w K Q) : o.wpIn (Fence.wide.inRound r) n P a w K' Q := by
  unfold Oper.wp at h
  refine ⟨fun _ _ => trivial, ?_⟩
  rw [Oper.semAt_eq _ _ _ hd]
  generalize (execOp a.eval o).run P w = res at *
  cases res with
  | ok x w' =>
    cases x with
    | value v => exact hK _ _ h
    | skip => exact hK _ _ h
    | defer d => exact hK _ _ h
    | enter f args =>
      refine ⟨fun q => (by cases q), CallsIn.inRound r ((callsIn_wide (n := n - 1)).2 (Calls.mono h ?_))⟩
      intro e w'' he
      cases e with
      | returned v => exact hK _ _ he
      | panicked ch => exact he
      | outgrown => exact (hQ he).elim
    | row row args => exact ⟨fun q => (by cases q), fun c cs _ => let ⟨v, w2, h1, h2⟩ := h c cs; ⟨v, w2, hK _ _ h1, stepsIn_wide.2 h2⟩⟩
    | _ => exact h.elim
  | halt x w' =>
    cases x with
    | panic v => exact h
    | _ => exact h.elim
theorem wpAnyIn_of_wpAny {r n : Nat} {P : Program} {md : Region.Mode} {ops : Array Oper} {Q : Exit → Act → World → Prop} (hd : noDefer ops = true) (hQ : ¬ LetsOut Q) :
    ∀ (fuel : Nat) (listed : Array Bool) (a : Act) (w : World), wpAny P md ops Q fuel listed a w → wpAnyIn (Fence.wide.inRound r) n P md ops Q fuel listed a w
  | 0, _, _, _, h => h
  | fuel + 1, listed, a, w, h => ⟨h.1, fun i hi => by
      have h2 := h.2 i hi
      unfold wpOp at h2
      unfold wpOpIn
      split
      · rename_i ho
        simp only [ho] at h2
        exact wpAnyIn_of_wpAny hd hQ fuel _ _ _ h2
      · rename_i o ho
        simp only [ho] at h2
        split
        · rename_i hw
          rw [if_pos hw] at h2
          rcases h2 with h2 | h2
          · exact oper_round (noDefer_spec hd ho) hQ (fun a w => wpAnyIn_of_wpAny hd hQ fuel _ a w) h2
          · exact (hQ h2.2).elim
        · rename_i hw
          rw [if_neg hw] at h2
          exact ⟨fun _ _ => trivial, wpAnyIn_of_wpAny hd hQ fuel _ _ _ h2⟩⟩
/-- In a round: a region that draws its order, all of whose operations read or call quietly. -/
theorem wpIn_round_quiet {r n id : Nat} {P : Program} {Q : Exit → Act → World → Prop} {a : Act} {w : World} {l : List Oper} (hQ : ¬ LetsOut Q) (hm : P.follows .mixedOrders = true) (hd : noDefer l.toArray = true) (hB : Region.lexB .any l.toArray = true)
    (h : wpQuiet P l.toArray (fun w' => ∃ n, w' = w.drewN n) (fun a' => ∀ w', (∃ n, w' = w.drewN n) → Q .normal a' w') l a) : (Code.region id l.toArray true).wpIn (Fence.wide.inRound r) n P Q a w := by
  simp only [Region.lexB, Bool.and_eq_true] at hB
  refine wpIn_region_any hm (wpAnyIn_of_wpAny hd hQ _ _ _ _ (wpAny_of_quiet (C := fun w' => ∃ n, w' = w.drewN n) (Q := fun a' => ∀ w', (∃ n, w' = w.drewN n) → Q .normal a' w') (fun _ w' hw' h => h w' hw') _ _ _ _ ⟨1, rfl⟩ ?_))
  have := wpAnyQ_lex (C := fun w' => ∃ n, w' = w.drewN n) (md := .any) hB.1 l 0 (Array.replicate l.toArray.size false) a (by simp) (by simpa using hB.2) h
  simpa using this
/-- In a round: a region that draws its order, of which the first m operations only read, the others stand in one forced order behind them. -/
theorem wpIn_round_still {r n id : Nat} {P : Program} {Q : Exit → Act → World → Prop} {a : Act} {w : World} {l : List Oper} (m : Nat) (hQ : ¬ LetsOut Q) (hm : P.follows .mixedOrders = true) (hd : noDefer l.toArray = true) (hB : Region.lexTailB .any l.toArray m = true)
    (h : wpStill P l.toArray { w with drawn := w.drawn + 1 } (fun a' => wpList P l.toArray Q (l.drop m) a' { w with drawn := w.drawn + 1 }) (l.take m) a) : (Code.region id l.toArray true).wpIn (Fence.wide.inRound r) n P Q a w := by
  simp only [Region.lexTailB, Bool.and_eq_true, decide_eq_true_eq] at hB
  obtain ⟨⟨⟨⟨hsel, hn⟩, hs⟩, hc⟩, hlex⟩ := hB
  have hn' : m < l.length := by simpa using hn
  have htl : (l.take m).length = m := by simp; omega
  have hdl : (l.drop m).length = l.toArray.size - m := by simp
  have inv0 : HeadInv .any l.toArray m (Array.replicate l.toArray.size false) :=
    ⟨by simp, fun j oj _ hl => (by rw [getD_replicate_false] at hl; cases hl), fun t _ ht => getD_in (by simpa using ht) (getD_replicate_false _ _)⟩
  have H := wpAnyL_lex (md := .any) (g := l.toArray.size - m) hsel hs hc hn (l.take m) 0 _ a (fun j hj => by
    have hj' : j < m := by rw [htl] at hj; exact hj
    simp [hj']) (by simpa using htl) inv0 (by rw [htl]; exact hlex) h
  refine wpIn_region_any hm (wpAnyIn_of_wpAny hd hQ _ _ _ _ ?_)
  have := wpAny_of_head (Q' := Q) (g := l.toArray.size - m) (fun listed a' hL => by
    have := wpAny_of_seq (md := .any) (Q' := Q) (l.drop m) m listed a' { w with drawn := w.drawn + 1 } (fun j => by simp [List.getElem?_drop]) (by rw [hdl]; exact hL.1) hL.2
    rwa [hdl] at this) _ _ _ H
  rw [htl, show m + (l.toArray.size - m) = l.toArray.size by omega] at this
  exact this
end Go.Proofs.YthjbnbimfpbccaaGreatDoor
/-
  A paint's region is painted or taken away: what change computes. Condition: at most 16384 granules.
-/



set_option linter.unusedVariables false
namespace Go.Proofs.YthjbnbimfpbccaaGreatDoor
open Go.ChangeShapes Go.WideShapes Go.ChangeAt Go.RowKit
attribute [local go_sem] Oper.semAt_some
theorem Tg.atK {W W' : World} {p g n : Nat} {f : Nat → Bool} (h : Tg W p g n f) (k : AtK W W') : Tg W' p g n f := by
  obtain ⟨h1, h2, h3, c, cs, h4, h5, h6, h7⟩ := h
  exact ⟨h1, h2, h3, c, cs, h4, k _ _ _ h5, k _ _ _ h6, h7⟩
theorem Pt.atK {W W' : World} {pp p g n : Nat} {f : Nat → Bool} (h : Pt W pp p g n f) (k : AtK W W') : Pt W' pp p g n f := ⟨k _ _ _ h.1, h.2.1.atK k, h.2.2⟩
theorem Tg.atg {w : World} {p g n : Nat} {f : Nat → Bool} (h : Tg w p g n f) : ∃ t cs, At w g t cs := by
  obtain ⟨h1, h2, h3, c, cs, h4, h5, h6, h7⟩ := h
  exact ⟨_, _, h6⟩
/-- A granule of a region. -/
abbrev Gr (A R : Nat) := { x : Nat // A ≤ x ∧ x < A + R }
def AllG (A R : Nat) (xs : List (Gr A R)) : Prop := ∀ i, A ≤ i → i < A + R → ∃ y ∈ xs, y.1 = i
theorem gran_stops (n A R q : Nat) (hA : A + R ≤ 16777216) (w : World) (hq : At w q 45 #[.int .u32 (16 * A : Nat), .int .u32 (16 * R : Nat)]) :
    SeqStopsK Fence.wide n Tryz.prog 157 #[.pointer (some ⟨q, 0, none⟩)] (fun x : Gr A R => #[.int .i64 (x.1 : Nat)]) (KpAt q) (AllG A R) (fun _ => True) R w := fun l J Jx W hb hJ hJx hY h0 => by
  have hqW : At W q 45 #[.int .u32 (16 * A : Nat), .int .u32 (16 * R : Nat)] := (hb.block q hq.lt).trans hq
  have Hq := Lib.hid hqW
  have c0 := hqW.cell 0
  have c1 := hqW.cell 1
  simp only [List.getElem?_toArray, List.getElem?_cons_zero, List.getElem?_cons_succ] at c0 c1
  have HY := Lib.hid hY
  clear hq hb hqW hY
  refine callsIn_of_wp Tryz.func157 rfl trivial ?_ rfl
  simp only [Tryz.ntmps157, List.size_toArray, List.length_cons, List.length_nil, Nat.reduceAdd, Nat.reduceSub, Array.replicate_succ, Array.replicate_zero, List.push_toArray, List.append_toArray, List.nil_append, List.cons_append]
  gi_wp2
  gi_loopw [3] (fun v wr => ∃ pre : List (Gr A R), pre.length ≤ R ∧ v = .int .u64 ((16 * (A + pre.length) : Nat) : Int) ∧ (∀ i, A ≤ i → i < A + pre.length → ∃ y ∈ pre, y.1 = i) ∧ J pre wr ∧ At wr q 45 #[.int .u32 (16 * A : Nat), .int .u32 (16 * R : Nat)]) (fun v _ => 16 * (A + R) - (intOf v).toNat)
  case atStart => exact ⟨[], by simp, by simp, fun i h1 h2 => by simp at h2; omega, h0, Hq.out⟩
  case round =>
    obtain ⟨pre, hpl, rfl, hall, hj, hqr⟩ := hrel
    have c0 := hqr.cell 0
    have c1 := hqr.cell 1
    simp only [List.getElem?_toArray, List.getElem?_cons_zero, List.getElem?_cons_succ] at c0 c1
    have HA := Lib.hid hall
    have HQ := Lib.hid hqr
    clear hall hqr
    by_cases hlt : pre.length < R
    · obtain ⟨fn, tmps, assign, body, hy, hR⟩ := HY.out pre ⟨A + pre.length, by omega, by omega⟩ wr hj hlt
      dsimp only at hy
      have HR := Lib.hid hR
      clear hR hj
      obtain ⟨c, hc⟩ : ∃ c, A + pre.length = c := ⟨_, rfl⟩
      rw [hc] at hy ⊢
      have hc16 : ((16 * c : Nat) : Int) / 16 = c := by omega
      have hc17 : ((16 * c : Nat) : Int) + 16 = ((16 * (c + 1) : Nat) : Int) := by omega
      have hlt2 : ((16 * c : Nat) : Int) < ((16 * A : Nat) : Int) + ((16 * R : Nat) : Int) := by omega
      have hcb : c ≤ 16777216 := by omega
      have HC := Lib.hid hc
      clear hc
      gi_wp2
      refine ⟨fun h => (by cases h), HR.out.mono ?_⟩
      rintro e W3 (⟨rfl, hJ3, hk3⟩ | ⟨rfl, hJx3⟩)
      · have hq3 := hk3 _ _ HQ.out
        gi_wp2
        go_roundw
        case rel =>
          refine ⟨pre ++ [⟨A + pre.length, by omega, by omega⟩], by simp; omega, by congr 1; simp; have := HC.out; omega, fun i h1 h2 => ?_, hJ3, hq3⟩
          by_cases e : i < A + pre.length
          · obtain ⟨y, hy, he⟩ := HA.out i h1 e
            exact ⟨y, by simp [hy], he⟩
          · exact ⟨⟨A + pre.length, by omega, by omega⟩, by simp, by simp at h2 ⊢; omega⟩
        case measure => simp [intOf]; omega
      · gi_wp2
        refine bodyPost_ret (results_none rfl _ _ _) rfl ?_
        exact ⟨⟨_, rfl⟩, .inr ⟨_, trivial, hJx3⟩⟩
    · gi_wp2
      go_end0
      exact ⟨⟨_, rfl⟩, .inl ⟨pre, fun i h1 h2 => HA.out i h1 (by omega), hj⟩⟩
theorem ptchg_nil (w : World) (a s : Int) (tb : Bool) :
    Calls Tryz.prog 133 #[.pointer none, .agg #[.int .u32 a, .int .u32 s], .bool tb] w fun r w' => r = .returned (.bool false) ∧ Fr [] w w' := by
  go_enter Tryz.func133, Tryz.ntmps133
  go_wp2_with (go_at_call 125; refine (ptnone_nil _).mono ?_; rintro e w' ⟨rfl, rfl⟩)
  refine bodyPost_ret (v := .bool false) (by simp [results, Tryz.results133, go_sem]) rfl ⟨rfl, ?_⟩
  exact (by repeat (first | exact Fr.refl _ _ | assumption | refine Fr.trans0 ?_ (by assumption) | refine Fr.drewN ?_ _ | refine Fr.alloc ?_ _ | refine Fr.drew ?_))
theorem chg_test (n : Nat) (a s : Int) (hn : n ≤ 16384) (ha : 0 ≤ a) (hs : 0 ≤ s) :
    allB [(a.tmod 16 == 0), (s.tmod 16 == 0), decide (0 < s), decide (a + s ≤ IntKind.u64.wrap (IntKind.u64.wrap (n : Int) * 16))] = decide (a % 16 = 0 ∧ s % 16 = 0 ∧ 0 < s ∧ a + s ≤ 16 * n) := by
  have h1 : IntKind.u64.wrap (n : Int) = n := wrap_nat n (by omega)
  have h2 : IntKind.u64.wrap ((n : Int) * 16) = n * 16 := wrap_nat (n * 16) (by omega)
  rw [h1, h2, Int.tmod_eq_emod_of_nonneg ha, Int.tmod_eq_emod_of_nonneg hs, Bool.eq_iff_iff]
  simp [allB]
  omega
/-- What the function's own boxes hold. -/
def Boxes (w : World) (pp p : Nat) (a s : Int) (tb r : Bool) (W : World) : Prop :=
  At W w.heap.size 103 #[.pointer (some ⟨pp, 0, none⟩)] ∧ At W (w.heap.size + 1) 45 #[.int .u32 a, .int .u32 s] ∧ At W (w.heap.size + 1 + 1) 4 #[.bool tb] ∧ At W (w.heap.size + 1 + 1 + 1) 4 #[.bool r] ∧ At W pp 204 #[.pointer (some ⟨p, 0, none⟩)]
theorem boxes_start (w : World) (pp p : Nat) (a s : Int) (tb : Bool) (h : At w pp 204 #[.pointer (some ⟨p, 0, none⟩)]) : Boxes w pp p a s tb false ((((w.alloc (.cells #[.pointer (some ⟨pp, 0, none⟩)] 103)).alloc (.cells #[.int .u32 a, .int .u32 s] 45)).alloc (.cells #[.bool tb] 4)).alloc (.cells #[.bool false] 4)) := by
  have b0 := At.new w 103 #[.pointer (some ⟨pp, 0, none⟩)]
  have b1 := At.new (w.alloc (.cells #[.pointer (some ⟨pp, 0, none⟩)] 103)) 45 #[.int .u32 a, .int .u32 s]
  have b2 := At.new ((w.alloc (.cells #[.pointer (some ⟨pp, 0, none⟩)] 103)).alloc (.cells #[.int .u32 a, .int .u32 s] 45)) 4 #[.bool tb]
  have b3 := At.new (((w.alloc (.cells #[.pointer (some ⟨pp, 0, none⟩)] 103)).alloc (.cells #[.int .u32 a, .int .u32 s] 45)).alloc (.cells #[.bool tb] 4)) 4 #[.bool false]
  simp only [World.size_alloc] at b1 b2 b3
  exact ⟨((b0.old _).old _).old _, (b1.old _).old _, b2.old _, b3, (((h.old _).old _).old _).old _⟩
theorem Boxes.fr {w W V : World} {pp p : Nat} {a s : Int} {tb r : Bool} {S : List Nat} (h : Boxes w pp p a s tb r W) (f : Fr S W V) (hpp : pp ∉ S) (hz : ∀ k ∈ S, k < w.heap.size) : Boxes w pp p a s tb r V :=
  ⟨h.1.fr f (fun x => by have := hz _ x; omega), h.2.1.fr f (fun x => by have := hz _ x; omega), h.2.2.1.fr f (fun x => by have := hz _ x; omega), h.2.2.2.1.fr f (fun x => by have := hz _ x; omega), h.2.2.2.2.fr f hpp⟩
theorem Boxes.setr {w W : World} {pp p : Nat} {a s : Int} {tb r : Bool} (h : Boxes w pp p a s tb r W) (r' : Bool) (hpp : pp < w.heap.size) : Boxes w pp p a s tb r' (W.setCell ⟨w.heap.size + 1 + 1 + 1, 0, none⟩ (.bool r')) :=
  ⟨h.1.far (show w.heap.size ≠ w.heap.size + 1 + 1 + 1 by omega) _, h.2.1.far (show w.heap.size + 1 ≠ w.heap.size + 1 + 1 + 1 by omega) _, h.2.2.1.far (show w.heap.size + 1 + 1 ≠ w.heap.size + 1 + 1 + 1 by omega) _, h.2.2.2.1.set 0 (.bool r'), h.2.2.2.2.far (show pp ≠ w.heap.size + 1 + 1 + 1 by omega) _⟩
theorem Boxes.cells {w W : World} {pp p : Nat} {a s : Int} {tb r : Bool} (h : Boxes w pp p a s tb r W) :
    (W.cell? ⟨pp, 0, none⟩ = some (.pointer (some ⟨p, 0, none⟩)) ∧ W.cell? ⟨w.heap.size, 0, none⟩ = some (.pointer (some ⟨pp, 0, none⟩))) ∧ W.cell? ⟨w.heap.size + 1, 0, none⟩ = some (.int .u32 a) ∧ W.cell? ⟨w.heap.size + 1, 1, none⟩ = some (.int .u32 s) :=
  ⟨⟨h.2.2.2.2.cell 0, h.1.cell 0⟩, h.2.1.cell 0, h.2.1.cell 1⟩
theorem Boxes.rest {w W : World} {pp p : Nat} {a s : Int} {tb r : Bool} (h : Boxes w pp p a s tb r W) :
    W.cell? ⟨w.heap.size + 1 + 1, 0, none⟩ = some (.bool tb) ∧ W.cell? ⟨w.heap.size + 1 + 1 + 1, 0, none⟩ = some (.bool r) ∧ W.frozen? ⟨w.heap.size + 1 + 1 + 1, 0, none⟩ = false :=
  ⟨h.2.2.1.cell 0, h.2.2.2.1.cell 0, h.2.2.2.1.froz 0⟩
theorem ptchg_bad (w : World) (pp p g n : Nat) (f : Nat → Bool) (h : Pt w pp p g n f) (a s : Int) (tb : Bool) (ha : 0 ≤ a) (ha2 : a ≤ 4294967295) (hs : 0 ≤ s) (hs2 : s ≤ 4294967295) (hb : ¬ (a % 16 = 0 ∧ s % 16 = 0 ∧ 0 < s ∧ a + s ≤ 16 * n)) :
    Calls Tryz.prog 133 #[.pointer (some ⟨pp, 0, none⟩), .agg #[.int .u32 a, .int .u32 s], .bool tb] w fun r w' => r = .returned (.bool false) ∧ Fr [] w w' := by
  have hn := h.2.2.2.2
  have H := Lib.hid h
  have HB := Lib.hid hb
  have BS := Lib.hid (boxes_start w pp p a s tb h.1)
  have hf0 : Hid (Fr [] w ((((w.alloc (.cells #[.pointer (some ⟨pp, 0, none⟩)] 103)).alloc (.cells #[.int .u32 a, .int .u32 s] 45)).alloc (.cells #[.bool tb] 4)).alloc (.cells #[.bool false] 4))) := Lib.hid (by repeat (first | exact Fr.refl _ _ | assumption | refine Fr.trans0 ?_ (by assumption) | refine Fr.drewN ?_ _ | refine Fr.alloc ?_ _ | refine Fr.drew ?_))
  clear h hb
  go_enter Tryz.func133, Tryz.ntmps133
  go_wp2_with (go_at_call 125; refine (ptnone_any _ pp p g n f (H.out.fr hf0.out (by simp) (by simp) (by simp))).mono ?_; rintro e w' ⟨rfl, rfl⟩)
  obtain ⟨W, hW⟩ : ∃ W, (((w.alloc (.cells #[.pointer (some ⟨pp, 0, none⟩)] 103)).alloc (.cells #[.int .u32 a, .int .u32 s] 45)).alloc (.cells #[.bool tb] 4)).alloc (.cells #[.bool false] 4) = W := ⟨_, rfl⟩
  rw [hW] at BS hf0 ⊢
  have hL := Lib.hid fun (V : World) (hV : V.heap = W.heap) => len_any V p g n f ((H.out.fr hf0.out (by simp) (by simp) (by simp)).heap hV).2.1
  have d0 := BS.out.cells
  have hAll : Hid (allB [(a.tmod 16 == 0), (s.tmod 16 == 0), decide (0 < s), decide (a + s ≤ IntKind.u64.wrap (IntKind.u64.wrap (n : Int) * 16))] = false) := Lib.hid (by
    rw [chg_test n a s hn ha hs]
    exact decide_eq_false HB.out)
  clear hW
  go_region_held3 (fun w' => (w'.cell? ⟨pp, 0, none⟩ = some (.pointer (some ⟨p, 0, none⟩)) ∧ w'.cell? ⟨w.heap.size, 0, none⟩ = some (.pointer (some ⟨pp, 0, none⟩))) ∧ w'.cell? ⟨w.heap.size + 1, 0, none⟩ = some (.int .u32 a) ∧ w'.cell? ⟨w.heap.size + 1, 1, none⟩ = some (.int .u32 s)) (first | exact d0 | exact d6 | go_keep) (first | (go_at_call 95; refine Calls.mono (hL.out _ (by rfl)) ?_; rintro e w5 ⟨rfl, rfl⟩) | (go_at_call 148; refine Calls.mono (all_any _ _ [(a.tmod 16 == 0), (s.tmod 16 == 0), decide (0 < s), decide (a + s ≤ IntKind.u64.wrap (IntKind.u64.wrap (n : Int) * 16))] ((At.new _ _ _).hp (by rfl)) (by simp)) ?_; rw [hAll.out]; rintro e w6 ⟨rfl, h6⟩; have hf6 : Fr [] W w6 := (by rw [← h6]; exact ((Fr.refl _ _).alloc _).drew); have B6 := Lib.hid (BS.out.fr hf6 (by simp) (by simp)); have d6 := B6.out.cells; clear h6))
  have r6 := B6.out.rest
  obtain ⟨r6, r7, r8⟩ := r6
  go_wp2
  refine bodyPost_ret (v := .bool false) (by simp [results, Tryz.results133, go_sem, r7]) rfl ⟨rfl, ?_⟩
  exact ((hf0.out.trans0 hf6).set (.inr (by show w.heap.size ≤ w.heap.size + 1 + 1 + 1; omega)) _)
theorem Boxes.atK {w W V : World} {pp p : Nat} {a s : Int} {tb r : Bool} (h : Boxes w pp p a s tb r W) (k : AtK W V) : Boxes w pp p a s tb r V :=
  ⟨k _ _ _ h.1, k _ _ _ h.2.1, k _ _ _ h.2.2.1, k _ _ _ h.2.2.2.1, k _ _ _ h.2.2.2.2⟩
def okP (f : Nat → Bool) (A R : Nat) (tb : Bool) : Bool := (List.range R).all fun i => f (A + i) != tb
theorem okP_yes {f : Nat → Bool} {A R : Nat} {tb : Bool} (h : ∀ i, A ≤ i → i < A + R → f i ≠ tb) : okP f A R tb = true := by
  unfold okP
  rw [List.all_eq_true]
  intro i hi
  have := h (A + i) (by omega) (by simp at hi; omega)
  simpa using this
theorem okP_no {f : Nat → Bool} {A R : Nat} {tb : Bool} {i : Nat} (h1 : A ≤ i) (h2 : i < A + R) (h : f i = tb) : okP f A R tb = false := by
  cases e : okP f A R tb with
  | false => rfl
  | true =>
    unfold okP at e
    rw [List.all_eq_true] at e
    have := e (i - A) (by simp; omega)
    rw [show A + (i - A) = i by omega, h] at this
    simp at this
def setP (f : Nat → Bool) (A R : Nat) (tb : Bool) : Nat → Bool := fun i => if A ≤ i ∧ i < A + R then tb else f i
def setL (f : Nat → Bool) (l : List Nat) (tb : Bool) : Nat → Bool := fun i => if i ∈ l then tb else f i
theorem setL_nil (f : Nat → Bool) (tb : Bool) : setL f [] tb = f := funext fun i => by simp [setL]
theorem setL_snoc (f : Nat → Bool) (l : List Nat) (x : Nat) (tb : Bool) : upd (setL f l tb) x tb = setL f (l ++ [x]) tb := funext fun i => by
  unfold upd setL
  by_cases e : i = x
  · subst e; simp
  · simp [e]
def valsG {A R : Nat} (l : List (Gr A R)) : List Nat := l.map fun y => y.1
theorem valsG_snoc {A R : Nat} (l : List (Gr A R)) (x : Gr A R) : valsG (l ++ [x]) = valsG l ++ [x.1] := by simp [valsG]
theorem setL_all (f : Nat → Bool) (A R : Nat) (xs : List (Gr A R)) (tb : Bool) (h : AllG A R xs) : setL f (valsG xs) tb = setP f A R tb := funext fun i => by
  unfold setL setP
  by_cases e : A ≤ i ∧ i < A + R
  · obtain ⟨y, hy, he⟩ := h i e.1 e.2
    rw [if_pos e, if_pos (show i ∈ valsG xs from List.mem_map.2 ⟨y, hy, he⟩)]
  · rw [if_neg e, if_neg]
    intro hm
    obtain ⟨y, _, he⟩ := List.mem_map.1 hm
    have := y.2
    omega
def chgF (f : Nat → Bool) (A R : Nat) (tb : Bool) : Nat → Bool := if okP f A R tb = true then setP f A R tb else f
set_option maxHeartbeats 2000000 in
set_option maxRecDepth 100000 in
theorem ptchg_ok (w : World) (pp p g n : Nat) (f : Nat → Bool) (h : Pt w pp p g n f) (A R : Nat) (tb : Bool) (hR : 1 ≤ R) (hAR : A + R ≤ n) :
    Calls Tryz.prog 133 #[.pointer (some ⟨pp, 0, none⟩), .agg #[.int .u32 (16 * A : Nat), .int .u32 (16 * R : Nat)], .bool tb] w fun r w' => r = .returned (.bool (okP f A R tb)) ∧ Tg w' p g n (chgF f A R tb) ∧ Fr [g] w w' := by
  have hn := h.2.2.2.2
  obtain ⟨a, ha⟩ : ∃ a : Int, ((16 * A : Nat) : Int) = a := ⟨_, rfl⟩
  obtain ⟨s, hs⟩ : ∃ s : Int, ((16 * R : Nat) : Int) = s := ⟨_, rfl⟩
  rw [ha, hs]
  have H := Lib.hid h
  have BS := Lib.hid (boxes_start w pp p a s tb h.1)
  have hf0 : Hid (Fr [] w ((((w.alloc (.cells #[.pointer (some ⟨pp, 0, none⟩)] 103)).alloc (.cells #[.int .u32 a, .int .u32 s] 45)).alloc (.cells #[.bool tb] 4)).alloc (.cells #[.bool false] 4))) := Lib.hid (by repeat (first | exact Fr.refl _ _ | assumption | refine Fr.trans0 ?_ (by assumption) | refine Fr.drewN ?_ _ | refine Fr.alloc ?_ _ | refine Fr.drew ?_))
  have hAll : Hid (allB [(a.tmod 16 == 0), (s.tmod 16 == 0), decide (0 < s), decide (a + s ≤ IntKind.u64.wrap (IntKind.u64.wrap (n : Int) * 16))] = true) := Lib.hid (by
    rw [chg_test n a s hn (by omega) (by omega)]
    exact decide_eq_true (by omega))
  have hasz : 0 ≤ a ∧ a ≤ 262144 ∧ 0 ≤ s ∧ s ≤ 262144 := by omega
  obtain ⟨ha1, ha2, hs1, hs2⟩ := hasz
  have HA := Lib.hid ha
  have HSS := Lib.hid hs
  clear h ha hs
  refine (callsIn_wide (n := 3)).1 ?_
  refine callsIn_of_wp_marks Tryz.func133 rfl trivial ?_ rfl
  simp only [Tryz.ntmps133, List.size_toArray, List.length_cons, List.length_nil, Nat.reduceAdd, Nat.reduceSub, Array.replicate_succ, Array.replicate_zero, List.push_toArray, List.append_toArray, List.nil_append, List.cons_append]
  refine wpIn_wide.2 ?_
  go_wp2_with (go_at_call 125; refine (ptnone_any _ pp p g n f (H.out.fr hf0.out (by simp) (by simp) (by simp))).mono ?_; rintro e w' ⟨rfl, rfl⟩)
  obtain ⟨W, hW⟩ : ∃ W, (((w.alloc (.cells #[.pointer (some ⟨pp, 0, none⟩)] 103)).alloc (.cells #[.int .u32 a, .int .u32 s] 45)).alloc (.cells #[.bool tb] 4)).alloc (.cells #[.bool false] 4) = W := ⟨_, rfl⟩
  rw [hW] at BS hf0 ⊢
  have hL := Lib.hid fun (V : World) (hV : V.heap = W.heap) => len_any V p g n f ((H.out.fr hf0.out (by simp) (by simp) (by simp)).heap hV).2.1
  have d0 := BS.out.cells
  clear hW
  go_region_held3 (fun w' => (w'.cell? ⟨pp, 0, none⟩ = some (.pointer (some ⟨p, 0, none⟩)) ∧ w'.cell? ⟨w.heap.size, 0, none⟩ = some (.pointer (some ⟨pp, 0, none⟩))) ∧ w'.cell? ⟨w.heap.size + 1, 0, none⟩ = some (.int .u32 a) ∧ w'.cell? ⟨w.heap.size + 1, 1, none⟩ = some (.int .u32 s)) (first | exact d0 | exact d6 | go_keep) (first | (go_at_call 95; refine Calls.mono (hL.out _ (by rfl)) ?_; rintro e w5 ⟨rfl, rfl⟩) | (go_at_call 148; refine Calls.mono (all_any _ _ [(a.tmod 16 == 0), (s.tmod 16 == 0), decide (0 < s), decide (a + s ≤ IntKind.u64.wrap (IntKind.u64.wrap (n : Int) * 16))] ((At.new _ _ _).hp (by rfl)) (by simp)) ?_; rw [hAll.out]; rintro e w6 ⟨rfl, h6⟩; have hf6 : Fr [] W w6 := (by rw [← h6]; exact ((Fr.refl _ _).alloc _).drew); have B6 := Lib.hid (BS.out.fr hf6 (by simp) (by simp)); have d6 := B6.out.cells; clear h6))
  have HF6 := Lib.hid (hf0.out.trans0 hf6)
  clear hf6 d0 d6 hL
  have d6 := B6.out.cells
  go_wp2_with (go_at_call 149; refine (gran_any _ _ _).mono ?_; rintro e w7 ⟨rfl, h7⟩)
  subst h7
  have hq1 := At.new w6 45 #[.int .u32 a, .int .u32 s]
  have B7 := Lib.hid (B6.out.fr (S := []) ((Fr.refl _ _).alloc (.cells #[.int .u32 a, .int .u32 s] 45)) (by simp) (by simp))
  have HF7 := Lib.hid (HF6.out.alloc (.cells #[.int .u32 a, .int .u32 s] 45))
  have hws := HF6.out.size
  have HP7 := Lib.hid (H.out.fr HF7.out (by simp) (by simp) (by simp))
  obtain ⟨q, hq⟩ : ∃ q, w6.heap.size = q := ⟨_, rfl⟩
  obtain ⟨W1, hW1⟩ : ∃ W1, w6.alloc (.cells #[.int .u32 a, .int .u32 s] 45) = W1 := ⟨_, rfl⟩
  have hsz1 : W1.heap.size = q + 1 := by rw [← hW1, ← hq]; simp
  rw [hW1, hq] at hq1
  rw [hW1] at B7 HF7 HP7
  rw [hq] at hws
  rw [hW1, hq]
  have HQ1 := Lib.hid hq1
  rw [← HA.out, ← HSS.out] at hq1
  have HS1 := Lib.hid hsz1
  have hqp := H.out.lt
  clear hW1 hq hsz1 B6 d6 HF6 hws BS hAll hf0
  refine (wpIn_wide (n := 3)).1 ?_
  refine wpIn_rangeFunc_ownF rfl (by omega) (gf := 157) (lb := #[.pointer (some ⟨q, 0, none⟩)]) rfl trivial (enters_of Tryz.func157 (by kernel_rfl) rfl) (gran_stops _ A R q (by omega) _ hq1) kpAt_t kpAt_b (Below.refl _ _) (fun _ => rfl)
    (fun pre V => (∀ y ∈ pre, f y.1 ≠ tb) ∧ Boxes w pp p a s tb false V ∧ Pt V pp p g n f ∧ Fr [] w V)
    (fun c pre V => c = .ret ∧ (∃ y ∈ pre, f y.1 = tb) ∧ Boxes w pp p a s tb false V ∧ Pt V pp p g n f ∧ Fr [] w V)
    (fun x A B row hs hg hr => ⟨hs.1, hs.2.1.atK (atK_grown hg fun r e => (hr r e).2), hs.2.2.1.atK (atK_grown hg fun r e => (hr r e).2), hs.2.2.2.row hg HF7.out.size hr⟩)
    (fun c x A B row hs hg hr => ⟨hs.1, hs.2.1, hs.2.2.1.atK (atK_grown hg fun r e => (hr r e).2), hs.2.2.2.1.atK (atK_grown hg fun r e => (hr r e).2), hs.2.2.2.2.row hg HF7.out.size hr⟩)
    ⟨by simp, B7.out, HP7.out, HF7.out⟩ ?a1 ?assign ?body ?done ?stop
  case assign =>
    intro l x V K hK
    gi_wp2
    exact hK
  case body =>
    rintro l pre x V ⟨hne, hB, hP, hF⟩ _
    have HN := Lib.hid hne
    have HBx := Lib.hid hB
    have HPx := Lib.hid hP
    have d0 := hB.cells
    have d1 := hB.rest
    obtain ⟨d1, d2, d3⟩ := d1
    have hxn : x.1 < n := by have := x.2; omega
    have C := Lib.hid fun (U : World) (hU : U.heap = V.heap) => get_any U p g n f (HPx.out.heap hU).2.1 (x.1 : Nat)
    rw [inR_nat _ _ hxn, Int.toNat_natCast, Bool.true_and] at C
    have hVs := HPx.out.lt
    clear hne hB hP
    cases hfx : (f x.1 == tb)
    · have HX := Lib.hid (show f x.1 ≠ tb by simpa using hfx)
      clear hxn
      obtain ⟨b, hb⟩ : ∃ b, f x.1 = b := ⟨_, rfl⟩
      rw [hb] at C hfx
      clear hb
      gi_wp2
      refine wpIn_round_quiet (fun ⟨_, _, h⟩ => h) (by kernel_rfl) (by kernel_rfl) (by kernel_rfl) ?_; (repeat (quiet_step ((go_at_call 67; exact q_same (C.out _ (by rfl)))))); refine wpQuiet_nil ?_; intro _ hw'; obtain ⟨nq, hw''⟩ := hw'; subst hw''
      gi_wp2
      have hfd : Fr [] V (V.drewN nq) := (Fr.refl _ _).drewN _
      refine ⟨hfd.keepsFrom (by simp), kpAt_fr hfd (by simp), fun y hy => ?_, HBx.out.fr hfd (by simp) (by simp), HPx.out.fr hfd (by simp) (by simp) (by simp), hF.drewN _⟩
      rcases List.mem_append.1 hy with h | h
      · exact HN.out y h
      · simp at h; subst h; exact HX.out
    · have HX := Lib.hid (show f x.1 = tb by simpa using hfx)
      clear hxn
      obtain ⟨b, hb⟩ : ∃ b, f x.1 = b := ⟨_, rfl⟩
      rw [hb] at C hfx
      clear hb
      gi_wp2
      refine wpIn_round_quiet (fun ⟨_, _, h⟩ => h) (by kernel_rfl) (by kernel_rfl) (by kernel_rfl) ?_; (repeat (quiet_step ((go_at_call 67; exact q_same (C.out _ (by rfl)))))); refine wpQuiet_nil ?_; intro _ hw'; obtain ⟨nq, hw''⟩ := hw'; subst hw''
      gi_wp2
      have hfd : Fr [] V (V.drewN nq) := (Fr.refl _ _).drewN _
      have hBd := HBx.out.fr hfd (by simp) (by simp)
      have hfs : Fr [w.heap.size + 1 + 1 + 1] V ((V.drewN nq).setCell ⟨w.heap.size + 1 + 1 + 1, 0, none⟩ (.bool false)) := ((Fr.refl _ _).drewN _).set (.inl (by simp)) _
      refine ⟨hfs.keepsFrom (by simp; exact ⟨_, _, HBx.out.2.2.2.1⟩), rfl, ⟨x, by simp, HX.out⟩, hBd.setr false hqp.1, HPx.out.fr hfs (by simp; omega) (by simp; omega) (by simp; omega), (hF.drewN _).set (.inr (by show w.heap.size ≤ w.heap.size + 1 + 1 + 1; omega)) _⟩
  case stop =>
    rintro D c pre V hD _ ⟨rfl, ⟨y, hy, hyt⟩, hB, hP, hF⟩ hK
    have hfs := HF7.out.size
    gi_wp2
    refine ⟨by simp, .inl ⟨_, _, rfl, run_takeDeferred hK, ?_⟩⟩
    have hk := atK_put (.deferred none) hK rfl
    have hc5 := (hB.atK hk).rest.2.1
    have hno := okP_no y.2.1 y.2.2 hyt
    exact ⟨.bool false, by simp [results, Tryz.results133, go_sem, hc5], by rw [hno], by unfold chgF; rw [hno]; exact hP.2.1.atK hk, (hF.putObj D _ (by omega)).more (by simp)⟩
  case done =>
    rintro D xs V hD hall ⟨hne, hB, hP, hF⟩ hK
    have hyes : Hid (okP f A R tb = true) := Lib.hid (okP_yes fun i h1 h2 => by
      obtain ⟨y, hy, he⟩ := hall i h1 h2
      rw [← he]; exact hne y hy)
    have hDw : w.heap.size ≤ D := by have := HF7.out.size; omega
    have HBx := Lib.hid hB
    have HPx := Lib.hid hP
    have HK := Lib.hid hK
    have d0 := hB.cells
    have d1 := hB.rest
    obtain ⟨d1, d2, d3⟩ := d1
    clear hne hall hB hP hK
    go_wp2_with (go_at_call 149; refine (gran_any _ _ _).mono ?_; rintro e w7 ⟨rfl, h7⟩)
    subst h7
    have hq1 := At.new V 45 #[.int .u32 a, .int .u32 s]
    have hfa : Fr [] V (V.alloc (.cells #[.int .u32 a, .int .u32 s] 45)) := (Fr.refl _ _).alloc _
    have B8 := Lib.hid (HBx.out.fr hfa (by simp) (by simp))
    have HF8 := Lib.hid (hF.alloc (.cells #[.int .u32 a, .int .u32 s] 45))
    have HP8 := Lib.hid (HPx.out.fr hfa (by simp) (by simp) (by simp))
    have HD8 := Lib.hid ((hfa.keep D (Array.getElem?_eq_some_iff.1 HK.out).1 (by simp)).trans HK.out)
    have hDV := (Array.getElem?_eq_some_iff.1 HK.out).1
    have hgV := HPx.out.lt
    obtain ⟨q2, hq⟩ : ∃ q, V.heap.size = q := ⟨_, rfl⟩
    obtain ⟨W2, hW2⟩ : ∃ W2, V.alloc (.cells #[.int .u32 a, .int .u32 s] 45) = W2 := ⟨_, rfl⟩
    have hsz2 : W2.heap.size = q2 + 1 := by rw [← hW2, ← hq]; simp
    rw [hW2, hq] at hq1
    rw [hW2] at B8 HF8 HP8 HD8
    rw [hq] at hDV hgV
    rw [hW2, hq]
    rw [← HA.out, ← HSS.out] at hq1
    have HS2 := Lib.hid hsz2
    clear hW2 hq hsz2 hfa hF d0 d1 d2 d3
    refine (wpIn_wide (n := 3)).1 ?_
    refine wpIn_rangeFunc_ownF rfl (by omega) (gf := 157) (lb := #[.pointer (some ⟨q2, 0, none⟩)]) rfl trivial (enters_of Tryz.func157 (by kernel_rfl) rfl) (gran_stops _ A R q2 (by omega) _ hq1) kpAt_t kpAt_b (Below.refl _ _) (fun _ => rfl)
      (fun pre V => Boxes w pp p a s tb false V ∧ Pt V pp p g n (setL f (valsG pre) tb) ∧ V.heap[D]? = some (.deferred (some [])) ∧ Fr [g] w V)
      (fun _ _ _ => False)
      (fun x A B row hs hg hr => ⟨hs.1.atK (atK_grown hg fun r e => (hr r e).2), hs.2.1.atK (atK_grown hg fun r e => (hr r e).2), (hg.block D (Array.getElem?_eq_some_iff.1 hs.2.2.1).1 (fun e => by have := (hr D e.symm).1; have := HS2.out; omega)).trans hs.2.2.1, hs.2.2.2.row hg HF8.out.size hr⟩)
      (fun _ _ _ _ _ hs _ _ => hs)
      ⟨B8.out, by show Pt _ pp p g n (setL f [] tb); rw [setL_nil]; exact HP8.out, HD8.out, HF8.out.more (by simp)⟩ ?a2 ?assign2 ?body2 ?done2 ?stop2
    case assign2 =>
      intro l x V K hK
      gi_wp2
      exact hK
    case body2 =>
      rintro l pre x V3 ⟨hB, hP, hD3, hF⟩ _
      have HBx := Lib.hid hB
      have HPx := Lib.hid hP
      have HD3 := Lib.hid hD3
      have d0 := hB.cells
      have d1 := hB.rest
      obtain ⟨d1, d2, d3⟩ := d1
      have hxn : x.1 < n := by have := x.2; omega
      have hq2 : q2 ≠ g := by omega
      have C := Lib.hid fun (U : World) (hU : U.heap = V3.heap) => put_yes U p g n _ (HPx.out.heap hU).2.1 x.1 tb hxn
      clear hB hP hD3 hxn
      gi_wp2
      refine wpIn_round_still 6 (fun ⟨_, _, h⟩ => h) (by kernel_rfl) (by kernel_rfl) (by kernel_rfl) ?_; simp only [List.take_succ_cons, List.take_zero, List.drop_succ_cons, List.drop_zero]; (repeat still_step); (try refine wpStill_nil ?_)
      change wpList _ _ _ _ _ V3.drew
      go_wp2_with (go_at_call 63; refine (C.out _ (by rfl)).mono ?_; rintro e V4 ⟨rfl, h4, hf4⟩)
      gi_wp2
      have hf5 : Fr [g] V3 V4 := hf4.hd rfl rfl rfl rfl
      obtain ⟨tg, cg, hag⟩ := HPx.out.2.1.atg
      have hDg := hag.ne HD3.out rfl
      refine ⟨hf5.keepsFrom (by simp; exact ⟨_, _, hag⟩), kpAt_fr hf5 (by simp; omega), HBx.out.fr hf5 (by simp; exact HPx.out.2.2.2.1) (by simp; omega), HPx.out.put hf5 ?_, (hf5.keep D (Array.getElem?_eq_some_iff.1 HD3.out).1 (by simp; omega)).trans HD3.out, hF.trans hf5 (by simp)⟩
      rw [valsG_snoc, ← setL_snoc]
      exact h4
    case done2 =>
      rintro D2 ys V3 hD2 hall ⟨hB, hP, hK1, hF⟩ hK2
      have d1 := hB.rest
      obtain ⟨d1, d2, d3⟩ := d1
      have HBx := Lib.hid hB
      have HPx := Lib.hid hP
      have HK1 := Lib.hid hK1
      have HK2 := Lib.hid hK2
      have HALL := Lib.hid (setL_all f A R ys tb hall)
      have hDD : D ≠ D2 := by have := HS2.out; omega
      clear hB hP hK1 hK2 hall
      go_wp2
      have hfs : Fr [w.heap.size + 1 + 1 + 1] V3 (V3.setCell ⟨w.heap.size + 1 + 1 + 1, 0, none⟩ (.bool true)) := (Fr.refl _ _).set (.inl (by simp)) _
      have hko := KeepsOthers.setCell V3 ⟨w.heap.size + 1 + 1 + 1, 0, none⟩ (.bool true)
      have hK2 := hko.same D2 _ HK2.out rfl
      have hK1 := hko.same D _ HK1.out rfl
      have hK1 := (World.putObj_heap_other (w := V3.setCell ⟨w.heap.size + 1 + 1 + 1, 0, none⟩ (.bool true)) (o := .deferred none) hDD).trans hK1
      have hBs := HBx.out.setr true hqp.1
      have hPs := HPx.out.fr hfs (by simp; omega) (by simp; omega) (by simp; omega)
      have hFs := hF.set (a := ⟨w.heap.size + 1 + 1 + 1, 0, none⟩) (.inr (by show w.heap.size ≤ w.heap.size + 1 + 1 + 1; omega)) (.bool true)
      refine ⟨by simp, .inl ⟨_, _, rfl, run_takeDeferred hK2, by simp, .inl ⟨_, _, rfl, run_takeDeferred hK1, ?_⟩⟩⟩
      have hk2 := atK_put (.deferred none) hK2 rfl
      have hk1 := atK_put (.deferred none) hK1 rfl
      have hc5 := ((hBs.atK hk2).atK hk1).rest.2.1
      have hD2w : w.heap.size ≤ D2 := by have := HS2.out; omega
      refine ⟨.bool true, by simp [results, Tryz.results133, go_sem, hc5], by rw [hyes.out], ?_, (hFs.putObj D2 _ hD2w).putObj D _ hDw⟩
      unfold chgF
      rw [if_pos hyes.out, ← HALL.out]
      exact (hPs.2.1.atK hk2).atK hk1
    case stop2 => exact fun _ _ _ _ _ _ h _ => h.elim
end Go.Proofs.YthjbnbimfpbccaaGreatDoor
/-
  Add and Remove of a paint, at every region; nil paints. Condition: at most 16384 granules.
-/



set_option linter.unusedVariables false
namespace Go.Proofs.YthjbnbimfpbccaaGreatDoor
open Go.ChangeShapes Go.WideShapes Go.ChangeAt Go.RowKit
def okC (n : Nat) (f : Nat → Bool) (a s : Int) (tb : Bool) : Bool := decide (a % 16 = 0 ∧ s % 16 = 0 ∧ 0 < s ∧ a + s ≤ 16 * n) && okP f (a / 16).toNat (s / 16).toNat tb
def newC (n : Nat) (f : Nat → Bool) (a s : Int) (tb : Bool) : Nat → Bool := if okC n f a s tb = true then setP f (a / 16).toNat (s / 16).toNat tb else f
theorem okC_no {n : Nat} {f : Nat → Bool} {a s : Int} {tb : Bool} (h : ¬ (a % 16 = 0 ∧ s % 16 = 0 ∧ 0 < s ∧ a + s ≤ 16 * n)) : okC n f a s tb = false ∧ newC n f a s tb = f := by
  have e : okC n f a s tb = false := by unfold okC; rw [decide_eq_false h]; rfl
  unfold newC
  rw [e]; exact ⟨rfl, if_neg (by simp)⟩
theorem okC_nat {n : Nat} {f : Nat → Bool} {A R : Nat} {tb : Bool} (hR : 1 ≤ R) (hAR : A + R ≤ n) :
    okC n f (16 * A : Nat) (16 * R : Nat) tb = okP f A R tb ∧ newC n f (16 * A : Nat) (16 * R : Nat) tb = chgF f A R tb := by
  have e : okC n f (16 * A : Nat) (16 * R : Nat) tb = okP f A R tb := by
    unfold okC
    rw [decide_eq_true (by omega), show (((16 * A : Nat) : Int) / 16).toNat = A by omega, show (((16 * R : Nat) : Int) / 16).toNat = R by omega]; rfl
  unfold newC chgF
  rw [e, show (((16 * A : Nat) : Int) / 16).toNat = A by omega, show (((16 * R : Nat) : Int) / 16).toNat = R by omega]
  exact ⟨rfl, rfl⟩
theorem okC_cases (n : Nat) (a s : Int) (ha : 0 ≤ a) (hs : 0 ≤ s) : (¬ (a % 16 = 0 ∧ s % 16 = 0 ∧ 0 < s ∧ a + s ≤ 16 * n)) ∨ ∃ A R : Nat, a = (16 * A : Nat) ∧ s = (16 * R : Nat) ∧ 1 ≤ R ∧ A + R ≤ n := by
  by_cases h : a % 16 = 0 ∧ s % 16 = 0 ∧ 0 < s ∧ a + s ≤ 16 * n
  · exact .inr ⟨(a / 16).toNat, (s / 16).toNat, by omega, by omega, by omega, by omega⟩
  · exact .inl h
theorem ptchg_any (w : World) (pp p g n : Nat) (f : Nat → Bool) (h : Pt w pp p g n f) (a s : Int) (tb : Bool) (ha : 0 ≤ a) (ha2 : a ≤ 4294967295) (hs : 0 ≤ s) (hs2 : s ≤ 4294967295) :
    Calls Tryz.prog 133 #[.pointer (some ⟨pp, 0, none⟩), .agg #[.int .u32 a, .int .u32 s], .bool tb] w fun r w' => r = .returned (.bool (okC n f a s tb)) ∧ Pt w' pp p g n (newC n f a s tb) ∧ Fr [g] w w' := by
  rcases okC_cases n a s ha hs with hb | ⟨A, R, rfl, rfl, hR, hAR⟩
  · rw [(okC_no hb).1, (okC_no hb).2]
    exact (ptchg_bad w pp p g n f h a s tb ha ha2 hs hs2 hb).mono fun e w' ⟨he, hf⟩ => ⟨he, h.fr hf (by simp) (by simp) (by simp), hf.more (by simp)⟩
  · rw [(okC_nat hR hAR).1, (okC_nat hR hAR).2]
    exact (ptchg_ok w pp p g n f h A R tb hR hAR).mono fun e w' ⟨he, ht, hf⟩ => ⟨he, h.put hf ht, hf⟩
theorem ptadd_any (w : World) (pp p g n : Nat) (f : Nat → Bool) (h : Pt w pp p g n f) (a s : Int) (ha : 0 ≤ a) (ha2 : a ≤ 4294967295) (hs : 0 ≤ s) (hs2 : s ≤ 4294967295) :
    Calls Tryz.prog 103 #[.pointer (some ⟨pp, 0, none⟩), .agg #[.int .u32 a, .int .u32 s]] w fun r w' => r = .returned (.bool (okC n f a s true)) ∧ Pt w' pp p g n (newC n f a s true) ∧ Fr [g] w w' := by
  have C := Lib.hid fun (W : World) (hW : Fr [] w W) => ptchg_any W pp p g n f (h.fr hW (by simp) (by simp) (by simp)) a s true ha ha2 hs hs2
  have H := Lib.hid h.lt
  clear h
  generalize okC n f a s true = ok at *
  generalize newC n f a s true = f' at *
  go_enter Tryz.func103, Tryz.ntmps103
  go_wp2_with (go_at_call 133; refine (C.out _ (by repeat (first | exact Fr.refl _ _ | assumption | refine Fr.trans0 ?_ (by assumption) | refine Fr.drewN ?_ _ | refine Fr.alloc ?_ _ | refine Fr.drew ?_))).mono ?_; rintro e w2 ⟨rfl, h2, hf2⟩)
  go_ret
  exact ⟨rfl, h2, Fr.trans (by repeat (first | exact Fr.refl _ _ | assumption | refine Fr.trans0 ?_ (by assumption) | refine Fr.drewN ?_ _ | refine Fr.alloc ?_ _ | refine Fr.drew ?_)) hf2 (by simp)⟩
theorem ptadd_nil (w : World) (a s : Int) : Calls Tryz.prog 103 #[.pointer none, .agg #[.int .u32 a, .int .u32 s]] w fun r w' => r = .returned (.bool false) ∧ Fr [] w w' := by
  go_enter Tryz.func103, Tryz.ntmps103
  go_wp2_with (go_at_call 133; refine (ptchg_nil _ a s true).mono ?_; rintro e w2 ⟨rfl, hf2⟩)
  go_ret
  exact ⟨rfl, Fr.trans0 (by repeat (first | exact Fr.refl _ _ | assumption | refine Fr.trans0 ?_ (by assumption) | refine Fr.drewN ?_ _ | refine Fr.alloc ?_ _ | refine Fr.drew ?_)) hf2⟩
end Go.Proofs.YthjbnbimfpbccaaGreatDoor
/-
  Regions in a list, and the granules that they paint. No condition; no program in sight.
-/



set_option linter.unusedVariables false
namespace Go.Proofs.YthjbnbimfpbccaaGreatDoor
open Go.ChangeShapes Go.WideShapes Go.ChangeAt Go.RowKit
def cov (l : List (Nat × Nat)) (j : Nat) : Bool := l.any fun r => decide (r.1 ≤ 16 * j) && decide (16 * j < r.1 + r.2)
structure Good (n : Nat) (l : List (Nat × Nat)) : Prop where
  al : ∀ r ∈ l, r.1 % 16 = 0 ∧ r.2 % 16 = 0 ∧ 0 < r.2 ∧ r.1 + r.2 ≤ 16 * n
  rise : Rise l
theorem good_nil (n : Nat) : Good n [] := ⟨(fun r h => by cases h), fun i j r s _ h => by simp at h⟩
theorem Good.place {n : Nat} {l : List (Nat × Nat)} (h : Good n l) : ∀ (i : Nat) (r : Nat × Nat), l[i]? = some r → 16 * i ≤ r.1
  | 0, r, hr => by omega
  | i + 1, r, hr => by
    obtain ⟨hlt, _⟩ := List.getElem?_eq_some_iff.1 hr
    obtain ⟨s, hs⟩ : ∃ s, l[i]? = some s := ⟨_, List.getElem?_eq_getElem (by omega)⟩
    have h1 := h.place i s hs
    have h2 := h.rise i (i + 1) s r (by omega) hs hr
    have h3 := (h.al s (List.mem_of_getElem? hs)).1
    have h4 := (h.al r (List.mem_of_getElem? hr)).1
    omega
theorem Good.len {n : Nat} {l : List (Nat × Nat)} (h : Good n l) : l.length ≤ n := by
  rcases Nat.eq_zero_or_pos l.length with h0 | h0
  · omega
  · obtain ⟨s, hs⟩ : ∃ s, l[l.length - 1]? = some s := ⟨_, List.getElem?_eq_getElem (by omega)⟩
    have h1 := h.place _ s hs
    have h2 := h.al s (List.mem_of_getElem? hs)
    omega
theorem insL_mem (l : List (Nat × Nat)) (k : Nat) (r x : Nat × Nat) : x ∈ insL l k r ↔ x = r ∨ x ∈ l := by
  unfold insL
  rw [List.mem_append, List.mem_cons]
  constructor
  · rintro (h | h | h)
    · exact .inr (List.mem_of_mem_take h)
    · exact .inl h
    · exact .inr (List.mem_of_mem_drop h)
  · rintro (h | h)
    · exact .inr (.inl h)
    · rw [← List.take_append_drop k l, List.mem_append] at h
      rcases h with h | h
      · exact .inl h
      · exact .inr (.inr h)
theorem cov_ins (l : List (Nat × Nat)) (k : Nat) (r : Nat × Nat) (j : Nat) : cov (insL l k r) j = (cov [r] j || cov l j) := by
  rw [Bool.eq_iff_iff]
  unfold cov
  rw [Bool.or_eq_true, List.any_eq_true, List.any_eq_true, List.any_eq_true]
  constructor
  · rintro ⟨x, hx, h⟩
    rcases (insL_mem l k r x).1 hx with rfl | hx
    · exact .inl ⟨x, by simp, h⟩
    · exact .inr ⟨x, hx, h⟩
  · rintro (⟨x, hx, h⟩ | ⟨x, hx, h⟩)
    · exact ⟨x, (insL_mem l k r x).2 (.inl (by simpa using hx)), h⟩
    · exact ⟨x, (insL_mem l k r x).2 (.inr hx), h⟩
/-- Whether one of a region's granules is painted. -/
def tch (f : Nat → Bool) (A R : Nat) : Bool := (List.range R).any fun k => f (A + k)
theorem tch_no {f : Nat → Bool} {A R : Nat} (h : tch f A R = false) : ∀ j, A ≤ j → j < A + R → f j = false := fun j h1 h2 => by
  unfold tch at h
  rw [List.any_eq_false] at h
  have := h (j - A) (List.mem_range.2 (by omega))
  rw [show A + (j - A) = j by omega] at this
  simpa using this
theorem cov_one (A R j : Nat) : cov [(16 * A, 16 * R)] j = (decide (A ≤ j) && decide (j < A + R)) := by
  unfold cov
  simp only [List.any_cons, List.any_nil, Bool.or_false]
  congr 1
  · rw [decide_eq_decide]; omega
  · rw [decide_eq_decide]; omega
theorem ins_get (l : List (Nat × Nat)) (k : Nat) (hk : k ≤ l.length) (r : Nat × Nat) (i : Nat) : (insL l k r)[i]? = if i < k then l[i]? else if i = k then some r else l[i - 1]? := by
  have htl : (l.take k).length = k := by rw [List.length_take]; omega
  unfold insL
  by_cases h1 : i < k
  · rw [if_pos h1, List.getElem?_append_left (by omega), List.getElem?_take, if_pos h1]
  · rw [if_neg h1, List.getElem?_append_right (by omega), htl]
    by_cases h2 : i = k
    · rw [if_pos h2, h2, Nat.sub_self]; rfl
    · rw [if_neg h2, show i - k = (i - 1 - k) + 1 by omega, List.getElem?_cons_succ, List.getElem?_drop]
      congr 1; omega
/-- A region that touches nothing, put in its place. -/
theorem Good.ins {n : Nat} {l : List (Nat × Nat)} (h : Good n l) (A R k : Nat) (hR : 0 < R) (hn : A + R ≤ n) (hp : Place l (16 * A) k) (ht : tch (cov l) A R = false) : Good n (insL l k (16 * A, 16 * R)) := by
  obtain ⟨hk, h1, h2⟩ := hp
  have hno := tch_no ht A (by omega) (by omega)
  have hne : ∀ j s, k ≤ j → l[j]? = some s → 16 * A < s.1 := fun j s hj hs => by
    have h3 := h2 j s hj hs
    rcases Nat.lt_or_ge (16 * A) s.1 with h4 | h4
    · exact h4
    · exfalso
      have h5 := h.al s (List.mem_of_getElem? hs)
      unfold cov at hno
      rw [List.any_eq_false] at hno
      have := hno s (List.mem_of_getElem? hs)
      simp at this
      omega
  refine ⟨fun r hr => ?_, fun i j r s hij hr hs => ?_⟩
  · rcases (insL_mem l k _ r).1 hr with rfl | hr
    · dsimp only; omega
    · exact h.al r hr
  · rw [ins_get l k hk] at hr hs
    by_cases hjk : j < k
    · rw [if_pos (by omega)] at hr
      rw [if_pos hjk] at hs
      exact h.rise i j r s hij hr hs
    · rw [if_neg hjk] at hs
      by_cases hik : i < k
      · rw [if_pos hik] at hr
        by_cases hj : j = k
        · rw [if_pos hj] at hs
          injection hs with hs
          subst hs
          exact h1 i r hik hr
        · rw [if_neg hj] at hs
          exact h.rise i (j - 1) r s (by omega) hr hs
      · rw [if_neg hik] at hr
        rw [if_neg (by omega)] at hs
        by_cases hi : i = k
        · rw [if_pos hi] at hr
          injection hr with hr
          subst hr
          exact hne (j - 1) s (by omega) hs
        · rw [if_neg hi] at hr
          exact h.rise (i - 1) (j - 1) r s (by omega) hr hs
theorem paint_ins {n : Nat} (l : List (Nat × Nat)) (A R k : Nat) (hR : 1 ≤ R) (hn : A + R ≤ n) (ht : tch (cov l) A R = false) : okC n (cov l) ((16 * A : Nat) : Int) ((16 * R : Nat) : Int) true = true ∧ newC n (cov l) ((16 * A : Nat) : Int) ((16 * R : Nat) : Int) true = cov (insL l k (16 * A, 16 * R)) := by
  have ho : okP (cov l) A R true = true := okP_yes (fun j j1 j2 => by rw [tch_no ht j j1 j2]; simp)
  obtain ⟨h1, h2⟩ := @okC_nat n (cov l) A R true hR hn
  refine ⟨by rw [h1, ho], ?_⟩
  rw [h2]
  unfold chgF
  rw [ho, if_pos rfl]
  funext j
  rw [cov_ins, cov_one]
  unfold setP
  by_cases e : A ≤ j ∧ j < A + R
  · rw [if_pos e]; simp [e.1, e.2]
  · rw [if_neg e]
    have : (decide (A ≤ j) && decide (j < A + R)) = false := by simp; omega
    rw [this, Bool.false_or]
end Go.Proofs.YthjbnbimfpbccaaGreatDoor
