/-
  Small words that all my texts share: a block that is known whole (At), a frame that says which old blocks may have turned (Fr), how a quiet contract is handed to a region that draws, the ends of rows. No condition.
-/
import Derived.Test.YthjbnbimfpbccaaGreatDoorRows
import Derived.WalkKit
import Derived.ProofKit
import Derived.OpenShut
import Derived.Outline
import Derived.LoopTactic
import Derived.BigQuiet
import Derived.Handy
import Derived.Lib.Hide
import Derived.Below
import Derived.Deep.QuietTactic
import Derived.Deep.Draws
import Derived.Deep.OwnRows
import Derived.Deep.RegionWith
import Derived.Deep.LoopGhost
import Derived.Deep.Cut
import Derived.Laws.Rows
import Derived.Laws.AppendOwn
import Derived.Laws.OwnMore
import Derived.Laws.BitsAll
import Derived.ChangeSame
import Derived.Deep.Slices
import Derived.Deep.Fields
import Derived.Maps.AppendAt
import Derived.WalkSpells
import Derived.Lib.SliceRun
import Derived.Laws.MakeOwn
import Derived.Laws.CopyRow
import Derived.OrdersHeld
import Derived.Deep.RegionHeld
import Derived.Lib.AppendZerosOnto
import Derived.Lib.Overlaps
import Derived.Laws.Externs
import Derived.Deep.CutBlock
import Derived.Deep.DeepCutAuto
namespace Go.Proofs.YthjbnbimfpbccaaGreatDoor
open Go.ChangeShapes Go.WideShapes Go.ChangeAt Go.RowKit

/-! ### blocks known whole -/
def At (w : World) (g : Nat) (t : TypeId) (cs : Array Value) : Prop := w.heap[g]? = some (.cells cs t (0, 0))

structure Fr (S : List Nat) (w w' : World) : Prop where
  os : w'.os = w.os
  tape : w'.tape = w.tape
  output : w'.output = w.output
  size : w.heap.size ≤ w'.heap.size
  keep : ∀ k, k < w.heap.size → k ∉ S → w'.heap[k]? = w.heap[k]?

section
variable {w w' w'' : World} {g : Nat} {t : TypeId} {cs : Array Value} {S T : List Nat}
theorem At.lt (h : At w g t cs) : g < w.heap.size := by
  rcases Nat.lt_or_ge g w.heap.size with hlt | hge
  · exact hlt
  · unfold At at h; rw [Array.getElem?_eq_none hge] at h; cases h
theorem At.cell (h : At w g t cs) (i : Nat) : w.cell? ⟨g, i, none⟩ = cs[i]? := by unfold At at h; simp [World.cell?, h]
theorem At.froz (h : At w g t cs) (i : Nat) : w.frozen? ⟨g, i, none⟩ = false := by unfold At at h; simp [World.frozen?, h]
theorem At.fr (h : At w g t cs) (f : Fr S w w') (hg : g ∉ S) : At w' g t cs := (f.keep g h.lt hg).trans h
theorem At.frh {v : World} (h : At w g t cs) (f : Fr S v w') (hv : v.heap = w.heap) (hg : g ∉ S) : At w' g t cs := At.fr (w := v) (by unfold At; rw [hv]; exact h) f hg
theorem At.hp (h : At w g t cs) (hv : w'.heap = w.heap) : At w' g t cs := by unfold At at *; rw [hv]; exact h
theorem At.new (w : World) (t : TypeId) (cs : Array Value) : At (w.alloc (.cells cs t)) w.heap.size t cs := heap_alloc_new w _
theorem At.set (h : At w g t cs) (i : Nat) (u : Value) : At (w.setCell ⟨g, i, none⟩ u) g t (cs.setIfInBounds i u) := by
  unfold At at h ⊢
  simp [World.setCell, Array.getElem?_modify, h]
theorem At.inj {t' : TypeId} {cs' : Array Value} (h : At w g t cs) (h' : At w g t' cs') : t = t' ∧ cs = cs' := by
  unfold At at h h'; rw [h] at h'; injection h' with h'; injection h' with a b; exact ⟨b, a⟩
theorem At.drewN (h : At w g t cs) (n : Nat) : At (w.drewN n) g t cs := h
theorem At.old (h : At w g t cs) (o : Obj) : At (w.alloc o) g t cs := (Below.heap_alloc w o g h.lt).trans h
theorem At.far (h : At w g t cs) {a : Addr} (ha : g ≠ a.block) (u : Value) : At (w.setCell a u) g t cs := (Below.heap_setCell w a u g ha).trans h

theorem Fr.refl (S : List Nat) (w : World) : Fr S w w := ⟨rfl, rfl, rfl, Nat.le_refl _, fun _ _ _ => rfl⟩
theorem Fr.drewN (f : Fr S w w') (n : Nat) : Fr S w (w'.drewN n) := ⟨f.os, f.tape, f.output, f.size, f.keep⟩
theorem Fr.drew (f : Fr S w w') : Fr S w w'.drew := ⟨f.os, f.tape, f.output, f.size, f.keep⟩
theorem Fr.alloc (f : Fr S w w') (o : Obj) : Fr S w (w'.alloc o) :=
  ⟨f.os, f.tape, f.output, Nat.le_trans f.size (by simp), fun k hk hS => (Below.heap_alloc w' o k (Nat.lt_of_lt_of_le hk f.size)).trans (f.keep k hk hS)⟩
theorem Fr.set (f : Fr S w w') {a : Addr} (ha : a.block ∈ S ∨ w.heap.size ≤ a.block) (u : Value) : Fr S w (w'.setCell a u) :=
  ⟨f.os, f.tape, f.output, by simpa using f.size, fun k hk hS => (Below.heap_setCell w' a u k (by
    rintro rfl
    rcases ha with ha | ha
    · exact hS ha
    · omega)).trans (f.keep k hk hS)⟩
theorem Fr.trans (f : Fr S w w') (f' : Fr T w' w'') (hT : ∀ k ∈ T, k ∈ S ∨ w.heap.size ≤ k) : Fr S w w'' :=
  ⟨f'.os.trans f.os, f'.tape.trans f.tape, f'.output.trans f.output, Nat.le_trans f.size f'.size, fun k hk hS =>
    (f'.keep k (Nat.lt_of_lt_of_le hk f.size) (fun hkT => by
      rcases hT k hkT with h | h
      · exact hS h
      · omega)).trans (f.keep k hk hS)⟩
theorem Fr.hd {v : World} (f : Fr S v w') (h1 : v.os = w.os) (h2 : v.tape = w.tape) (h3 : v.output = w.output) (h4 : v.heap = w.heap) : Fr S w w' :=
  ⟨f.os.trans h1, f.tape.trans h2, f.output.trans h3, by rw [← h4]; exact f.size, fun k hk hS => by rw [f.keep k (by rw [h4]; exact hk) hS, h4]⟩
theorem Fr.hd' {v v' : World} (f : Fr S w v) (h1 : v'.os = v.os) (h2 : v'.tape = v.tape) (h3 : v'.output = v.output) (h4 : v'.heap = v.heap) : Fr S w v' :=
  ⟨h1.trans f.os, h2.trans f.tape, h3.trans f.output, by rw [h4]; exact f.size, fun k hk hS => by rw [h4]; exact f.keep k hk hS⟩
theorem Fr.trans0 (f : Fr S w w') (f' : Fr [] w' w'') : Fr S w w'' := f.trans f' (by simp)
theorem Fr.more (f : Fr S w w') (h : ∀ k ∈ S, k ∈ T ∨ w.heap.size ≤ k) : Fr T w w' :=
  ⟨f.os, f.tape, f.output, f.size, fun k hk hT => f.keep k hk (fun hkS => by
    rcases h k hkS with h | h
    · exact hT h
    · omega)⟩
theorem Fr.of_below (h : Below w.heap.size w w') : Fr [] w w' := ⟨h.os, h.tape, h.output, h.size, fun k hk _ => h.block k hk⟩
theorem Fr.below (f : Fr [] w w') : Below w.heap.size w w' := ⟨f.os, f.tape, f.output, f.size, fun k hk => f.keep k hk (by simp)⟩
theorem Fr.cell (f : Fr S w w') {a : Addr} (h : a.block < w.heap.size) (hS : a.block ∉ S) : w'.cell? a = w.cell? a := World.cell?_of_block (f.keep a.block h hS)
theorem Fr.froz (f : Fr S w w') {a : Addr} (h : a.block < w.heap.size) (hS : a.block ∉ S) : w'.frozen? a = w.frozen? a := World.frozen?_of_block (f.keep a.block h hS)
theorem Fr.grown {row : Option Nat} (f : w.grownBy w' row) : Fr row.toList w w' := ⟨f.os, f.tape, f.output, f.size, fun k hk hS => f.block k hk (by rintro rfl; simp at hS)⟩
theorem At.lt' (h : At w g t cs) (f : Fr S w w') : g < w'.heap.size := Nat.lt_of_lt_of_le h.lt f.size
end

/-! ### endings -/
theorem ret_int {k : IntKind} {a b : Int} (h : a = b) : Ending.returned (.int k a) = .returned (.int k b) := by rw [h]
theorem ret_bool {a b : Bool} (h : a = b) : Ending.returned (.bool a) = .returned (.bool b) := by rw [h]
theorem ret_two {k l : IntKind} {a b c d : Int} (h : a = c) (g : b = d) : Ending.returned (.tuple #[.int k a, .int l b]) = .returned (.tuple #[.int k c, .int l d]) := by rw [h, g]
theorem res_tmp4 {fn : Func} {t u v x : Tmp} (h : fn.results = #[.tmp t, .tmp u, .tmp v, .tmp x]) (tmps : Array Value) (P : Program) (w : World) :
    (results fn tmps).run P w = .ok (.tuple #[tmps.getD t undef, tmps.getD u undef, tmps.getD v undef, tmps.getD x undef]) w := by simp [results, h]
theorem res_tmp5 {fn : Func} {t u v x y : Tmp} (h : fn.results = #[.tmp t, .tmp u, .tmp v, .tmp x, .tmp y]) (tmps : Array Value) (P : Program) (w : World) :
    (results fn tmps).run P w = .ok (.tuple #[tmps.getD t undef, tmps.getD u undef, tmps.getD v undef, tmps.getD x undef, tmps.getD y undef]) w := by simp [results, h]

/-! ### quiet contracts -/
section
variable {P : Program} {f : FuncId} {args : Array Value} {w : World} {v : Value}
theorem q_same {n : Nat} (h : Calls P f args (w.drewN n) fun e w' => e = .returned v ∧ w.drewN n = w') : Calls P f args (w.drewN n) fun e w' => e = .returned v ∧ ∃ m, w' = w.drewN m :=
  h.mono fun _ _ ⟨he, hm⟩ => ⟨he, n, hm.symm⟩
theorem q_same_add {a n : Nat} (h : Calls P f args (w.drewN (a + n)) fun e w' => e = .returned v ∧ w.drewN (a + n) = w') : Calls P f args (w.drewN (a + n)) fun e w' => e = .returned v ∧ ∃ m, w' = w.drewN (a + m) :=
  h.mono fun _ _ ⟨he, hm⟩ => ⟨he, n, hm.symm⟩
theorem q_draw {n : Nat} (h : Calls P f args (w.drewN n) fun e w' => e = .returned v ∧ ∃ m, w' = (w.drewN n).drewN m) : Calls P f args (w.drewN n) fun e w' => e = .returned v ∧ ∃ m, w' = w.drewN m :=
  h.mono fun _ _ ⟨he, m, hm⟩ => ⟨he, n + m, by rw [hm, World.drewN_drewN]⟩
theorem q_draw_add {a n : Nat} (h : Calls P f args (w.drewN (a + n)) fun e w' => e = .returned v ∧ ∃ m, w' = (w.drewN (a + n)).drewN m) : Calls P f args (w.drewN (a + n)) fun e w' => e = .returned v ∧ ∃ m, w' = w.drewN (a + m) :=
  h.mono fun _ _ ⟨he, m, hm⟩ => ⟨he, n + m, by rw [hm, World.drewN_drewN, Nat.add_assoc]⟩
end

/-! ### the end of a row: the world has turned in new blocks alone -/
section
variable {H : Type} {enc : TypeId × Value → H} {P : Program}
theorem post_fr {f : Func} {s : ChangeSpec} {apart fresh handsOn again : Bool} {W W' : World} {args : Array Value} {v : Value} {ds gs : List (DataW H)} {before pa pv : List MemPlace}
    (hW : DataW.Whole enc P f.params.toList s.vars apart W args.toList ds gs before)
    (hres : ∀ (b : Nat) (sp : Nat → Bool) (hd : Bool), DataW.TrodAll enc P W' b sp hd f.resultTypes.toList (v.resultList f.resultTypes.size) (s.fn H (ds ++ gs)).results [])
    (hargs : ∀ sp : Nat → Bool, (∀ p ∈ before, sp p.block = true) → DataW.TrodAll enc P W' 0 sp true f.params.toList args.toList (s.fn H (ds ++ gs)).args pa)
    (hvars : ∀ sp : Nat → Bool, (∀ p ∈ before, sp p.block = true) → DataW.TrodVars enc P W' sp s.vars (s.fn H (ds ++ gs)).vars pv)
    (hps : before = pa ++ pv) (hb : Fr [] W W')
    (hok : ∀ (j : Nat) (t : TypeId) (r : Value), f.resultTypes[j]? = some t → (v.resultList f.resultTypes.size)[j]? = some r → Value.okWide P W' .any 0 t r) :
    s.post enc P f apart fresh handsOn again W args v W' := by
  have hlt : ∀ p ∈ before, p.block < W.heap.size := fun p hp => hW.lt p hp
  have hold : ∀ p ∈ before, (fun b => decide (b < W.heap.size)) p.block = true := fun p hp => by simpa using hlt p hp
  refine ⟨ds, gs, before, [], pa, pv, hW, hres _ _ _, hargs _ hold, hvars _ hold, World.keptBut_mono (fun p hp => ⟨hp, ?_⟩) (hb.below.frame (· ∈ before)), fun _ => ?_⟩
  · rw [hps, List.mem_append] at hp
    exact Or.inr hp
  · obtain ⟨_, _, _, _, _, hz, hn⟩ := hW
    refine ⟨hok, _, _, ([] ++ pa) ++ pv, ⟨[] ++ pa, pv, trodAll_append (hargs _ (fun _ _ => rfl)) (hres _ _ _), hvars _ (fun _ _ => rfl), rfl, ?_, ?_⟩, ?_⟩
    · intro b off hp
      have hin : MemPlace.cell b off ∈ before := by rw [hps]; simpa using hp
      rw [hb.below.frozen (hlt _ hin)]
      exact hz b off hin
    · intro ha
      have := hn ha
      rw [hps] at this
      simpa using this
    · intro p hp _
      rw [hps]
      simpa using hp
end

/-! ### a slice of integers that came in -/
/-- The slice's first len numbers are zs, and each lies in a cell; base a where there is one. -/
def Ints (k : IntKind) (w : World) (a : Option Addr) (len : Nat) (zs : List Int) : Prop :=
  len ≤ 9223372036854775807 ∧ zs.length = len ∧ (∀ z ∈ zs, (Lit.int k z).wf = true) ∧
  (len = 0 ∨ ∃ b off, a = some ⟨b, off, none⟩ ∧ b < w.heap.size ∧ ∀ i, i < len → w.cell? ⟨b, off + i, none⟩ = some (.int k (zs.getD i 0)))
theorem Ints.nil {k : IntKind} {w : World} (a : Option Addr) : Ints k w a 0 [] := ⟨by omega, rfl, by simp, .inl rfl⟩
theorem lt_of_cell {w : World} {a : Addr} {v : Value} (h : w.cell? a = some v) : a.block < w.heap.size := by
  rcases Nat.lt_or_ge a.block w.heap.size with hlt | hge
  · exact hlt
  · simp [World.cell?, Array.getElem?_eq_none hge] at h
theorem Ints.of {k : IntKind} {w : World} {x : Addr} {len cap : Nat} {zs : List Int} (hl : len ≤ cap) (hm : cap ≤ maxLen) (hz : zs.length = cap)
    (hcell : ∀ i, i < zs.length → w.cell? (x.add i) = some (.int k (zs.getD i 0))) (hw : ∀ z ∈ zs, (Lit.int k z).wf = true) : Ints k w (some x) len (zs.take len) := by
  unfold maxLen at hm
  refine ⟨by omega, by simp; omega, fun z h => hw z (List.mem_of_mem_take h), ?_⟩
  by_cases h0 : len = 0
  · exact .inl h0
  · refine .inr ?_
    have hne : 0 < zs.length := by omega
    obtain ⟨b, off, rfl, hc⟩ := ints_at hcell hne
    refine ⟨b, off, rfl, lt_of_cell (hc 0 hne), fun i hi => ?_⟩
    rw [hc i (by omega)]
    simp [List.getD_eq_getElem?_getD, hi]
/-! ### an array of two integers that came in by value -/
section
variable {H : Type} {enc : TypeId × Value → H} {P : Program} {k e : TypeId} {q : IntKind} {W : World} {base : Nat} {sp : Nat → Bool} {held : Bool}
theorem open_arr2 (hu : P.underlying k = some (.array 2 e)) (he : P.underlying e = some (.int q)) (h1 : P.cellsOf e = 1) (h2 : P.cellsOf k = 2) {r : Reach} {b0 : Nat} {v : Value} {d : DataW H} {ps : List MemPlace}
    (hv : Value.okWide P W r b0 k v) (h : DataW.Trod enc P W base sp held k v d ps) : ∃ x y : Int, v = .agg #[.int q x, .int q y] ∧ (Lit.int q x).wf = true ∧ (Lit.int q y).wf = true := by
  simp only [Value.okWide, hu] at hv
  obtain ⟨cs, rfl, hsz, _⟩ := hv
  rw [h2] at hsz
  obtain ⟨l⟩ := cs
  match l, hsz with
  | [c0, c1], _ =>
    obtain ⟨fuel, hf⟩ := h
    cases fuel with
    | zero => simp [DataW.trod] at hf
    | succ m =>
      rw [DataW.trod_step] at hf
      unfold DataW.trodStep at hf
      simp only [hu, Value.cells] at hf
      rw [if_pos (by simp [h2])] at hf
      simp only [Option.map_eq_some_iff] at hf
      obtain ⟨ys, hy, _⟩ := hf
      rw [show List.range 2 = [0, 1] from rfl] at hy
      simp only [List.mapM_cons, List.mapM_nil, h1, bind, Option.bind_eq_some_iff, pure] at hy
      obtain ⟨y0, hy0, ys', ⟨y1, hy1, _⟩, _⟩ := hy
      obtain ⟨x, ex, _, wx⟩ := DataW.trod_int he hy0
      obtain ⟨y, ey, _, wy⟩ := DataW.trod_int he hy1
      simp at ex ey
      exact ⟨x, y, by rw [ex, ey], wx, wy⟩
end
/-! ### a slice of records that came in, each field of one cell -/
def QI (k : IntKind) (v : Value) : Prop := ∃ z : Int, v = .int k z ∧ (Lit.int k z).wf = true
def QB (v : Value) : Prop := ∃ b : Bool, v = .bool b
def Recs (w : World) (a : Option Addr) (len nf : Nat) (Q : Nat → Value → Prop) : Prop :=
  len ≤ 9223372036854775807 ∧ (len = 0 ∨ ∃ b off, a = some ⟨b, off, none⟩ ∧ b < w.heap.size ∧ ∀ i, i < len → ∀ j, j < nf → ∃ v, w.cell? ⟨b, off + (i * nf + j), none⟩ = some v ∧ Q j v)
section
variable {H : Type} {enc : TypeId × Value → H} {P : Program} {w : World} {base : Nat} {spare : Nat → Bool} {held : Bool}
theorem open_recs {t e : TypeId} {fs : Array Field} {fuel : Nat} {a : Option Addr} {len cap : Nat} {x : DataW H × List MemPlace} (Q : Nat → Value → Prop) (ht : P.underlying t = some (.slice e)) (he : P.underlying e = some (.struct fs))
    (hone : Deep.oneCellFields P fs = true) (hC : P.cellsOf e = fs.size) (hpos : 0 < fs.size) (h : DataW.trod enc P w base spare held fuel t [.slice a len cap] = some x)
    (hQ : ∀ (j : Nat) (f : Field) (v : Value) (y : DataW H × List MemPlace) (n : Nat), fs[j]? = some f → DataW.trod enc P w base spare held n f.type [v] = some y → Q j v) : Recs w a len fs.size Q := by
  rcases Deep.open_slice ht h with ⟨h0, _⟩ | ⟨ad, l, c, m, n, D, Pl, hcs, hb, hl, hm, hmm, hx, hi⟩
  · simp at h0
    obtain ⟨_, rfl, _⟩ := h0
    exact ⟨by omega, .inl rfl⟩
  · simp at hcs
    obtain ⟨rfl, rfl, rfl⟩ := hcs
    unfold maxLen at hm
    refine ⟨by omega, ?_⟩
    by_cases hz : len = 0
    · exact .inl hz
    · refine .inr ?_
      have hlm : len ≤ m := by rw [hmm]; split <;> omega
      have key : ∀ i, i < len → ∀ j, j < fs.size → ∃ v, w.cell? (ad.add (i * fs.size + j)) = some v ∧ Q j v := by
        intro i hil j hj
        obtain ⟨cs', hc, ht'⟩ := hi i (by omega)
        rw [hC] at hc
        obtain ⟨ys, n', hn', hy, hlen, hyl, hf⟩ := DataW.trod_struct he ht'
        obtain ⟨_, hcl, hat⟩ := World.cells?_some hc
        have hfj : fs[j]? = some fs[j] := Array.getElem?_eq_getElem hj
        obtain ⟨ho, hk⟩ := Deep.hone_of hone j _ hfj
        have hcell := hat j hj
        have h1 := hf j _ hfj
        rw [ho, hk] at h1
        have hone' : (cs'.drop j).take 1 = [cs'[j]'(by omega)] := by
          rw [List.drop_eq_getElem_cons (by omega)]
          rfl
        rw [hone'] at h1
        have hys : ys[j]? = some (ys[j]'(by omega)) := List.getElem?_eq_getElem (by omega)
        refine ⟨cs'[j]'(by omega), ?_, hQ j _ _ _ _ hfj (h1.trans hys)⟩
        rw [← Deep.add_add, hcell, List.getElem?_eq_getElem (by omega)]
      obtain ⟨v0, hv0, _⟩ := key 0 (by omega) 0 hpos
      obtain ⟨b, off, spot⟩ := ad
      have hspot : spot = none := by
        have := World.cell?_spot hv0
        simpa [Addr.add] using this
      subst hspot
      refine ⟨b, off, rfl, by have := lt_of_cell hv0; rw [Go.WideShapes.add_plain] at this; exact this, fun i hil j hj => ?_⟩
      obtain ⟨v, hv, hq⟩ := key i hil j hj
      rw [Go.WideShapes.add_plain] at hv
      exact ⟨v, hv, hq⟩
end
theorem own : ownKnob Tryz.prog.godebug = none := by kernel_rfl
end Go.Proofs.YthjbnbimfpbccaaGreatDoor
/-
  A sweeper's state asked for, and what else is asked. No condition.
-/


set_option linter.unusedVariables false
namespace Go.Proofs.YthjbnbimfpbccaaGreatDoor
open Go.ChangeShapes Go.WideShapes Go.ChangeAt Go.RowKit
theorem swin_nil (w : World) (st : Int) (v : Value) : Calls Tryz.prog 47 #[.pointer none, .int .i64 st, v] w fun r w' => r = .returned (.bool false) ∧ w = w' := by
  go_enter Tryz.func47, Tryz.ntmps47
  go_wp2_with fail
  go_ret
  exact ⟨rfl, rfl⟩
section
variable (w : World) (sp gp : Nat) (st x : Int) (c0 : w.cell? ⟨sp, 0, none⟩ = some (.pointer (some ⟨gp, 0, none⟩))) (c4 : w.cell? ⟨sp, 4, none⟩ = some (.int .i64 x))
include c0 c4
theorem swin_no (v : Value) (h : x ≠ st) : Calls Tryz.prog 47 #[.pointer (some ⟨sp, 0, none⟩), .int .i64 st, v] w fun r w' => r = .returned (.bool false) ∧ w = w' := by
  have h1 : (x != st) = true := by simpa using h
  go_enter Tryz.func47, Tryz.ntmps47
  go_wp2_with fail
  go_ret
  exact ⟨rfl, rfl⟩
theorem swin_0 (cap : Nat) (h : x = st) : Calls Tryz.prog 47 #[.pointer (some ⟨sp, 0, none⟩), .int .i64 st, .slice none 0 cap] w fun r w' => r = .returned (.bool true) ∧ w = w' := by
  subst h
  go_enter Tryz.func47, Tryz.ntmps47
  go_wp2_with fail
  go_loopw [28] (fun i wr => i = .int .i64 0 ∧ w = wr) (fun _ _ => 0)
  case atStart => exact ⟨rfl, rfl⟩
  case round =>
    obtain ⟨rfl, rfl⟩ := hrel
    go_wp2_with fail
    go_ret
    exact ⟨rfl, rfl⟩
theorem swin_1 (q cap : Nat) (id : FuncId) (env : Array Value) (X : World → Prop) (b : Bool) (h : x = st) (hq : w.cell? ⟨q, 0, none⟩ = some (.func (.func id) #[] env))
    (heg : ∀ args W, (callFunc id args).run Tryz.prog W = .ok (.enter id args) W) (hc : Calls Tryz.prog id env w fun r w' => r = .returned (.bool b) ∧ X w') :
    Calls Tryz.prog 47 #[.pointer (some ⟨sp, 0, none⟩), .int .i64 st, .slice (some ⟨q, 0, none⟩) 1 cap] w fun r w' => r = .returned (.bool b) ∧ X w' := by
  subst h
  have HC := Lib.hid hc
  clear hc
  go_enter Tryz.func47, Tryz.ntmps47
  go_wp2_with fail
  go_loopw [28] (fun i wr => (i = .int .i64 0 ∧ w = wr) ∨ (i = .int .i64 1 ∧ b = true ∧ X wr)) (fun i _ => 1 - (intOf i).toNat)
  case atStart => exact .inl ⟨rfl, rfl⟩
  case round =>
    rcases hrel with ⟨rfl, rfl⟩ | ⟨rfl, rfl, hx⟩
    · go_wp2_with fail
      refine HC.out.mono ?_
      rintro e w2 ⟨rfl, hx⟩
      have HX := Lib.hid hx
      clear hx
      cases b with
      | false =>
        go_wp2_with fail
        go_ret
        exact ⟨rfl, HX.out⟩
      | true =>
        go_wp2_with fail
        go_roundw
        case rel => exact .inr ⟨by first | rfl | trivial, by first | rfl | trivial, HX.out⟩
        case measure => simp [intOf]
    · have HX := Lib.hid hx
      clear hx
      go_wp2_with fail
      go_ret
      exact ⟨rfl, HX.out⟩
end
end Go.Proofs.YthjbnbimfpbccaaGreatDoor
/-
  Small words for lists in memory: a slice value that owns its cells (the kit's ownsRow), as it abides frames; lists of truths. No condition.
-/

set_option linter.unusedVariables false
namespace Go.Proofs.YthjbnbimfpbccaaGreatDoor
open Go.ChangeShapes Go.WideShapes Go.ChangeAt Go.RowKit
section
variable {w w' : World} {b b' : Nat} {e : TypeId} {size : Nat} {v : Value} {n : Nat} {xs : List Value} {S : List Nat}
theorem own_fr (h : w.ownsRow b e size v n xs) (f : Fr S w w') (hS : ∀ g, v.ownBlock = some g → g ∉ S) : w'.ownsRow b e size v n xs := by
  refine ⟨h.1, ?_⟩
  rcases h.2 with hn | ⟨g, cap, cur, rfl, hb, hgg, rest⟩
  · exact .inl hn
  · exact .inr ⟨g, cap, cur, rfl, hb, (f.keep g (Array.getElem?_eq_some_iff.1 hgg).1 (hS g rfl)).trans hgg, rest⟩
theorem own_fr0 (h : w.ownsRow b e size v n xs) (f : Fr [] w w') : w'.ownsRow b e size v n xs := own_fr h f (by simp)
theorem own_heap (h : w.ownsRow b e size v n xs) (hv : w'.heap = w.heap) : w'.ownsRow b e size v n xs := by
  unfold World.ownsRow at *; rw [hv]; exact h
theorem own_base (h : w.ownsRow b e size v n xs) (hb : b' ≤ b) : w.ownsRow b' e size v n xs := by
  refine ⟨h.1, ?_⟩
  rcases h.2 with hn | ⟨g, cap, cur, rfl, hbg, rest⟩
  · exact .inl hn
  · exact .inr ⟨g, cap, cur, rfl, by omega, rest⟩
theorem own_slice (h : w.ownsRow b e size v n xs) : ∃ a c, v = .slice a n c ∧ n ≤ c := by
  rcases h.2 with ⟨rfl, rfl⟩ | ⟨g, cap, cur, rfl, hbg, h1, h2, _⟩
  · exact ⟨_, _, rfl, Nat.le_refl _⟩
  · exact ⟨_, _, rfl, h2⟩
theorem own_len (h : w.ownsRow b e size v n xs) : n ≤ maxLen := by
  rcases h.2 with ⟨rfl, rfl⟩ | ⟨g, cap, cur, rfl, hbg, h1, h2, h3, _⟩
  · unfold maxLen; omega
  · omega
/-- A block of another type is not the list's. -/
theorem own_ne (h : w.ownsRow b e size v n xs) {q : Nat} {t : TypeId} {cs : Array Value} (hq : At w q t cs) (ht : t ≠ e) : ∀ g, v.ownBlock = some g → g ≠ q := by
  rintro g hg rfl
  rcases h.2 with ⟨rfl, rfl⟩ | ⟨g', cap, cur, rfl, hbg, h1, _⟩
  · simp [Value.ownBlock] at hg
  · simp [Value.ownBlock] at hg
    subst hg
    exact ht (hq.inj h1).1
theorem own_toList (h : w.ownsRow b e size v n xs) {q : Nat} {t : TypeId} {cs : Array Value} (hq : At w q t cs) (ht : t ≠ e) : q ∉ v.ownBlock.toList := by
  intro hm
  cases hv : v.ownBlock with
  | none => rw [hv] at hm; simp at hm
  | some g =>
    rw [hv] at hm
    simp at hm
    exact own_ne h hq ht g hv hm.symm
/-- The cells of a list that is not empty. -/
theorem own_open (h : w.ownsRow b e 1 v n xs) (hn : 0 < n) : ∃ g c, v = .slice (some ⟨g, 0, none⟩) n c ∧ n ≤ c ∧ b ≤ g ∧ g < w.heap.size ∧ (∀ k, k < n → w.cell? ⟨g, k, none⟩ = xs[k]?) ∧ ∀ k, w.frozen? ⟨g, k, none⟩ = false := by
  rcases h.2 with ⟨rfl, rfl⟩ | ⟨g, cap, cur, rfl, hbg, h1, h2, h3, h4, h5⟩
  · omega
  · have ha : At w g e cur := h1
    refine ⟨g, cap, rfl, h2, hbg, ha.lt, fun k hk => ?_, fun k => ha.froz k⟩
    rw [ha.cell k, ← h5, List.getElem?_take, if_pos (by omega)]
    simp
theorem own_set (h : w.ownsRow b e 1 v n xs) {g c : Nat} (hv : v = .slice (some ⟨g, 0, none⟩) n c) (k : Nat) (u : Value) : (w.setCell ⟨g, k, none⟩ u).ownsRow b e 1 v n (xs.set k u) := by
  subst hv
  rcases h.2 with ⟨h0, _⟩ | ⟨g', cap, cur, h0, hbg, h1, h2, h3, h4, h5⟩
  · cases h0
  · injection h0 with ha _ hc
    injection ha with ha
    injection ha with ha
    subst ha hc
    refine ⟨by rw [List.length_set]; exact h.1, .inr ⟨g, c, cur.setIfInBounds k u, rfl, hbg, At.set h1 k u, h2, h3, by simpa using h4, ?_⟩⟩
    rw [← h5]
    simp [List.take_set]
end
/-- A frame across an append to a list that lies beyond. -/
theorem Fr.app {S : List Nat} {w W W' : World} {v : Value} {B : Nat} {e : TypeId} {size n : Nat} {xs : List Value} (f : Fr S w W) (hg : W.grownBy W' v.ownBlock) (h : W.ownsRow B e size v n xs) (hB : w.heap.size ≤ B) : Fr S w W' :=
  f.trans (Fr.grown hg) (fun k hk => by
    cases hv : v.ownBlock with
    | none => rw [hv] at hk; simp at hk
    | some r => rw [hv] at hk; simp at hk; subst hk; exact .inr (Nat.le_trans hB (h.lt _ hv).1))
/-- A literal slice of structs, by a closed fact on the instruction. -/
theorem wpList_buildSlice {P : Program} {ops : Array Oper} {rest : List Oper} {o : Oper} {a : Act} {Q : Exit → Act → World → Prop} {w : World} (hgd : o.guard = none) (t len : Nat) (parts : Array (Nat × Operand)) (lit : Array (Nat × Value)) (v : Value) (w' : World)
    (hr : (Instr.buildSlice t len lit).run P w = .ok v w') (ho : o.op = .buildSlice t len parts) (hp : (parts.map fun (i, x) => (i, a.eval x)) = lit) (h : wpList P ops Q rest (a.put o.dst v) w') : wpList P ops Q (o :: rest) a w := by
  refine wpList_plain hgd fun K hK => ?_
  unfold Oper.wp execOp
  simp only [ho, hp, Sem.run_bind, hr, Result.andThen_ok, Sem.run_pure]
  exact hK _ _ h
theorem wp_buildSlice {P : Program} {o : Oper} {a : Act} {K : Act → World → Prop} {Q : Exit → Act → World → Prop} {w : World} (t len : Nat) (parts : Array (Nat × Operand)) (lit : Array (Nat × Value)) (v : Value) (w' : World)
    (hr : (Instr.buildSlice t len lit).run P w = .ok v w') (ho : o.op = .buildSlice t len parts) (hp : (parts.map fun (i, x) => (i, a.eval x)) = lit) (h : K (a.put o.dst v) w') : o.wp P a w K Q := by
  unfold Oper.wp execOp
  simp only [ho, hp, Sem.run_bind, hr, Result.andThen_ok, Sem.run_pure]
  exact h
/-! ### lists of truths -/
def bls (n : Nat) (f : Nat → Bool) : List Value := (List.range n).map fun k => .bool (f k)
theorem bls_len (n : Nat) (f : Nat → Bool) : (bls n f).length = n := by simp [bls]
theorem bls_get (n : Nat) (f : Nat → Bool) (k : Nat) (h : k < n) : (bls n f)[k]? = some (.bool (f k)) := by simp [bls, List.getElem?_range h]
theorem bls_snoc (n : Nat) (f : Nat → Bool) : bls n f ++ [.bool (f n)] = bls (n + 1) f := by simp [bls, List.range_succ]
theorem bls_congr (n : Nat) (f f' : Nat → Bool) (h : ∀ k, k < n → f k = f' k) : bls n f = bls n f' := by
  unfold bls
  refine List.map_congr_left fun k hk => ?_
  rw [h k (by simpa using hk)]
theorem bls_one (n : Nat) (f : Nat → Bool) : ∀ u ∈ bls n f, u.oneCell' = true := fun u hu => by
  unfold bls at hu
  obtain ⟨k, _, rfl⟩ := List.mem_map.1 hu
  rfl
/-- An array of truths, by value. -/
def batr (n : Nat) (f : Nat → Bool) : Array Value := (bls n f).toArray
theorem batr_get (n : Nat) (f : Nat → Bool) (k : Nat) (h : k < n) : (batr n f)[k]? = some (.bool (f k)) := by
  unfold batr; rw [List.getElem?_toArray]; exact bls_get n f k h
theorem batr_set (n : Nat) (f : Nat → Bool) (i : Nat) (b : Bool) : (batr n f).setIfInBounds i (.bool b) = batr n (fun j => if j = i then b else f j) := by
  refine Array.ext_getElem? fun j => ?_
  rw [Array.getElem?_setIfInBounds]
  have hs : ∀ g, (batr n g).size = n := fun g => by simp [batr, bls_len]
  by_cases hj : j < n
  · rw [batr_get _ _ _ hj, batr_get _ _ _ hj, hs]
    by_cases e : i = j
    · subst e; simp [hj]
    · rw [if_neg e, if_neg (fun h => e h.symm)]
  · have h1 : ∀ g, (batr n g)[j]? = none := fun g => Array.getElem?_eq_none (by rw [hs]; omega)
    rw [h1, h1, hs]
    by_cases e : i = j
    · subst e; simp [hj]
    · rw [if_neg e]
end Go.Proofs.YthjbnbimfpbccaaGreatDoor
/-
  make and copy of slices whose elements lie in several cells. Condition: the sizes that Go itself allows.
-/

set_option linter.unusedVariables false
namespace Go.Proofs.YthjbnbimfpbccaaGreatDoor
open Go.ChangeShapes Go.WideShapes Go.ChangeAt Go.RowKit
section
variable {P : Program}
theorem run_make_wide (t e : TypeId) (z : Value) (s bytes : Nat) (ht : P.underlying t = some (.slice e)) (hinfo : (P.info? e).map (fun i => (i.zero, i.size, i.bytes)) = some (some z, s, bytes))
    (kl kc : IntKind) (n : Nat) (hbytes : bytes * n ≤ 281474976710656) (h63 : n ≤ 9223372036854775807) (w : World) :
    (Instr.makeSlice t (.int kl (n : Int)) (.int kc (n : Int))).run P w = .ok (.slice (some ⟨w.heap.size, 0, none⟩) n n) (w.alloc (.cells (madeCells z.cells (n * s)) e)) := by
  obtain ⟨i, hi, hzz⟩ := Option.map_eq_some_iff.1 hinfo
  simp only [Prod.mk.injEq] at hzz
  obtain ⟨hz, hs, hb⟩ := hzz
  have hb' : (i.bytes : Int) * (n : Int) ≤ 281474976710656 := by
    have h : ((i.bytes * n : Nat) : Int) ≤ 281474976710656 := by rw [hb]; omega
    rwa [Int.natCast_mul] at h
  have hr := run_make (P := P) w t e i z ht hi hz kl kc n n (by omega) (Int.le_refl _) hb' (by omega)
  simp only [Int.toNat_natCast, hs] at hr
  exact hr
theorem run_copy_wide (w : World) (dT sT ty elem : TypeId) (s g o n dCap : Nat) (a : Addr) (sCap : Nat) (cur : Array Value) (t : TypeId) (cs : List Value)
    (hu : P.underlying dT = some (.slice elem)) (hs : (P.info? elem).map (·.size) = some s)
    (hg : w.heap[g]? = some (.cells cur t (0, 0))) (hn : cs.length = n * s)
    (hsrc : ∀ j v, cs[j]? = some v → w.cell? (a.add j) = some v) (hfit : o + cs.length ≤ cur.size) (h1 : ∀ v ∈ cs, v.oneCell' = true) :
    (Builtin.copy_ #[dT, sT] ty #[.slice (some ⟨g, o, none⟩) n dCap, .slice (some a) n sCap]).run P w =
      .ok (goInt n) (w.setRow g (cur.toList.take o ++ cs ++ cur.toList.drop (o + cs.length)).toArray) := by
  have hl := run_loadCells_list (P := P) w a cs hsrc
  have hst := run_storeCells_at P g o t cs 0 cur w hg (by simpa using hfit) h1
  cases hq : P.info? elem with
  | none => simp [hq] at hs
  | some i =>
    have hi : i.size = s := by simpa [hq] using hs
    rw [hn] at hl hst
    simp [Builtin.copy_, run_underlying hu, Builtin.lenOf, Builtin.firstCells, sizeOf, typeInfo, hq, hi, hl, hst, hn]
theorem run_copy_wide0 (w : World) (dT sT ty elem : TypeId) (d a : Option Addr) (dCap sCap : Nat)
    (hu : P.underlying dT = some (.slice elem)) (hs : ((P.info? elem).map (·.size)).isSome = true) :
    (Builtin.copy_ #[dT, sT] ty #[.slice d 0 dCap, .slice a 0 sCap]).run P w = .ok (goInt 0) w := by
  have hl : ∀ a : Addr, (loadCellsFrom a 0 0 #[]).run P w = .ok #[] w := fun a => by
    have := run_loadCells_list (P := P) w a [] (fun j v h => by simp at h)
    exact this
  cases hq : P.info? elem with
  | none => simp [hq] at hs
  | some i => cases d <;> cases a <;> simp [Builtin.copy_, run_underlying hu, Builtin.lenOf, Builtin.firstCells, sizeOf, typeInfo, hq, storeCells, loadCells, hl]
theorem wpList_copy_run {ops : Array Oper} {rest : List Oper} {o : Oper} {a : Act} {w : World} {Q : Exit → Act → World → Prop} (hgd : o.guard = none) (d s : Operand) (t t' : TypeId)
    (ho : o.op = .call { callee := .builtin .copy, args := #[d, s], argTypes := #[t, t'] }) (v u : Value) (hd : a.eval d = v) (hs : a.eval s = u) {v' : Value} {w' : World}
    (hr : (Builtin.copy_ #[t, t'] o.type #[v, u]).run P w = .ok v' w') (h : wpList P ops Q rest (a.put o.dst v') w') : wpList P ops Q (o :: rest) a w :=
  wpList_plain hgd fun K hK => by
    unfold Oper.wp execOp
    simp only [ho, resolve, invoke, builtin, Sem.run_bind, Sem.run_pure, Result.andThen_ok, List.map_toArray, List.map_cons, List.map_nil, hd, hs, hr]
    exact hK _ _ h
end
end Go.Proofs.YthjbnbimfpbccaaGreatDoor
/-
  Loads and stores of a part of a block that is known whole; the world behind a store is told by that block and a frame. Condition: the part lies within the block.
-/

set_option linter.unusedVariables false
namespace Go.Proofs.YthjbnbimfpbccaaGreatDoor
open Go.ChangeShapes Go.WideShapes Go.ChangeAt Go.RowKit
section
variable {P : Program} {ops : Array Oper} {rest : List Oper} {o : Oper} {a : Act} {w : World} {Q : Exit → Act → World → Prop} {K : Act → World → Prop}
theorem Fr.setRow (w : World) (g : Nat) (cs : Array Value) : Fr [g] w (w.setRow g cs) :=
  ⟨rfl, rfl, rfl, by simp, fun k _ hk => setRow_other w g k cs (by simpa using hk)⟩
theorem run_loadVar_at (w : World) (ty : TypeId) (ad : Addr) (cs : List Value) (d : TypeDesc) (hc : ∀ j v, cs[j]? = some v → w.cell? (ad.add j) = some v)
    (hu : P.underlying ty = some d) (hd : (match d with | .struct _ | .array _ _ => true | _ => false) = true) (hi : (P.info? ty).map (·.size) = some cs.length) :
    (loadVar ty ad).run P w = .ok (.agg cs.toArray) w := by
  have hl : (loadCells ad cs.length).run P w = .ok cs.toArray w := run_loadCells_list (P := P) w ad cs hc
  cases hq : P.info? ty with
  | none => simp [hq] at hi
  | some i =>
    have hs : i.size = cs.length := by simpa [hq] using hi
    have hagg : (isAgg ty).run P w = .ok true w := by
      unfold isAgg
      rw [Sem.run_bind, run_underlying hu w]
      cases d <;> simp_all
    simp [loadVar, Sem.run_bind, hagg, sizeOf, typeInfo, hq, hs, hl]
theorem wp_load_at (ty : TypeId) (x : Operand) (ho : o.op = .load ty x) (ad : Addr) (hx : a.eval x = .pointer (some ad)) (cs : List Value) (d : TypeDesc)
    (hc : ∀ j v, cs[j]? = some v → w.cell? (ad.add j) = some v)
    (hu : P.underlying ty = some d) (hd : (match d with | .struct _ | .array _ _ => true | _ => false) = true) (hi : (P.info? ty).map (·.size) = some cs.length)
    (h : K (a.put o.dst (.agg cs.toArray)) w) : o.wp P a w K Q := by
  unfold Oper.wp execOp
  simp only [ho, hx, Instr.loadAt, Instr.sureAddr, Sem.run_bind, Sem.run_pure, Result.andThen_ok, run_loadVar_at w ty ad cs d hc hu hd hi]
  exact h
/-- An operation that is wanted. -/
theorem wpList_want (hg : Region.wanted o (yielded ops a.tmps) = true) (h : ∀ K : Act → World → Prop, (∀ a w, wpList P ops Q rest a w → K a w) → o.wp P a w K Q) : wpList P ops Q (o :: rest) a w :=
  wpList_step fun K hK => by rw [if_pos hg]; exact h K hK
theorem wpList_load_at (hgd : Region.wanted o (yielded ops a.tmps) = true) (ty : TypeId) (x : Operand) (ho : o.op = .load ty x) (ad : Addr) (hx : a.eval x = .pointer (some ad)) (cs : List Value) (d : TypeDesc)
    (hc : ∀ j v, cs[j]? = some v → w.cell? (ad.add j) = some v)
    (hu : P.underlying ty = some d) (hd : (match d with | .struct _ | .array _ _ => true | _ => false) = true) (hi : (P.info? ty).map (·.size) = some cs.length)
    (h : wpList P ops Q rest (a.put o.dst (.agg cs.toArray)) w) : wpList P ops Q (o :: rest) a w :=
  wpList_want hgd fun _ hK => wp_load_at ty x ho ad hx cs d hc hu hd hi (hK _ _ h)
theorem run_storeVar_at (w : World) (g k : Nat) (t ty : TypeId) (cur cs : List Value) (hg : At w g t cur.toArray) (hi : (P.info? ty).map (·.size) = some cs.length)
    (hk : k + cs.length ≤ cur.length) (h1 : ∀ v ∈ cs, v.oneCell' = true) :
    (storeVar ty ⟨g, k, none⟩ (.agg cs.toArray)).run P w = .ok () (w.setRow g (cur.take k ++ cs ++ cur.drop (k + cs.length)).toArray) := by
  have := run_storeCells_at P g k t cs 0 cur.toArray w hg (by simpa using hk) h1
  cases hq : P.info? ty with
  | none => simp [hq] at hi
  | some i =>
    have hs : cs.length = i.size := by simp [hq] at hi; omega
    simp only [Nat.add_zero] at this
    simp [storeVar, sizeOf, typeInfo, hq, Value.cells, hs]
    rw [hs] at this
    simpa using this
theorem wp_store_at (ty : TypeId) (x y : Operand) (ho : o.op = .store ty x y) (g k : Nat) (cs : List Value) (hx : a.eval x = .pointer (some ⟨g, k, none⟩)) (hy : a.eval y = .agg cs.toArray)
    (t : TypeId) (cur : List Value) (hg : At w g t cur.toArray) (hi : (P.info? ty).map (·.size) = some cs.length) (hk : k + cs.length ≤ cur.length) (h1 : ∀ v ∈ cs, v.oneCell' = true)
    (h : ∀ w', At w' g t (cur.take k ++ cs ++ cur.drop (k + cs.length)).toArray → Fr [g] w w' → K (a.put o.dst undef) w') : o.wp P a w K Q := by
  unfold Oper.wp execOp
  simp only [ho, hx, hy, Instr.storeAt, Instr.sureAddr, Sem.run_bind, Sem.run_pure, Result.andThen_ok, run_storeVar_at w g k t ty cur cs hg hi hk h1]
  exact h _ (setRow_heap w g _ _ t (0, 0) hg) (Fr.setRow w g _)
theorem wpList_store_at (hgd : Region.wanted o (yielded ops a.tmps) = true) (ty : TypeId) (x y : Operand) (ho : o.op = .store ty x y) (g k : Nat) (cs : List Value) (hx : a.eval x = .pointer (some ⟨g, k, none⟩)) (hy : a.eval y = .agg cs.toArray)
    (t : TypeId) (cur : List Value) (hg : At w g t cur.toArray) (hi : (P.info? ty).map (·.size) = some cs.length) (hk : k + cs.length ≤ cur.length) (h1 : ∀ v ∈ cs, v.oneCell' = true)
    (h : ∀ w', At w' g t (cur.take k ++ cs ++ cur.drop (k + cs.length)).toArray → Fr [g] w w' → wpList P ops Q rest (a.put o.dst undef) w') : wpList P ops Q (o :: rest) a w :=
  wpList_want hgd fun _ hK => wp_store_at ty x y ho g k cs hx hy t cur hg hi hk h1 (fun w' h1 h2 => hK _ _ (h w' h1 h2))
/-- The whole of a block, stored anew. -/
theorem wpList_store_all (hgd : o.guard = none) (ty : TypeId) (x y : Operand) (ho : o.op = .store ty x y) (g : Nat) (cs : Array Value) (hx : a.eval x = .pointer (some ⟨g, 0, none⟩)) (hy : a.eval y = .agg cs)
    (t : TypeId) (cur : Array Value) (hg : At w g t cur) (hi : (P.info? ty).map (·.size) = some cs.size) (hk : cur.size = cs.size) (h1 : cs.all (·.oneCell') = true)
    (h : ∀ w', At w' g t cs → Fr [g] w w' → wpList P ops Q rest (a.put o.dst undef) w') : wpList P ops Q (o :: rest) a w :=
  wpList_store_row hgd ty x y ho g cs hx hy t cur hg hi hk h1 (h _ (setRow_heap w g _ _ t (0, 0) hg) (Fr.setRow w g _))
theorem wpList_load_all (hgd : Region.wanted o (yielded ops a.tmps) = true) (ty : TypeId) (x : Operand) (ho : o.op = .load ty x) (g : Nat) (hx : a.eval x = .pointer (some ⟨g, 0, none⟩)) (t : TypeId) (cs : Array Value) (d : TypeDesc) (hg : At w g t cs)
    (hu : P.underlying ty = some d) (hd : (match d with | .struct _ | .array _ _ => true | _ => false) = true) (hi : (P.info? ty).map (·.size) = some cs.size)
    (h : wpList P ops Q rest (a.put o.dst (.agg cs)) w) : wpList P ops Q (o :: rest) a w :=
  wpList_want hgd fun _ hK => wp_load_row ty x ho g hx t cs (0, 0) d hg hu hd hi (hK _ _ h)
end
end Go.Proofs.YthjbnbimfpbccaaGreatDoor
/-
  A region that draws its order, under a condition S on the world that need not hold behind some last operations Z; by hand, operation by operation. Condition: each operation that is taken first stands ahead of all of Z.
-/

set_option linter.unusedVariables false
namespace Go.Proofs.YthjbnbimfpbccaaGreatDoor
open Go.ChangeShapes Go.WideShapes Go.ChangeAt Go.RowKit
section
variable {P : Program} {ops : Array Oper} {Q : Exit → Act → World → Prop} {md : Region.Mode} {S : World → Prop} {Z : List Nat}
/-- Whatever order is picked; S holds behind each operation but those of Z. -/
def wpAnyL (P : Program) (md : Region.Mode) (ops : Array Oper) (Q : Exit → Act → World → Prop) (S : World → Prop) (Z : List Nat) : Nat → Array Bool → Act → World → Prop
  | 0, listed, a, w => Region.ready md ops listed = [] ∧ Q .normal a w
  | fuel + 1, listed, a, w =>
    (Region.ready md ops listed = [] → Q .normal a w) ∧
    ∀ i ∈ Region.ready md ops listed, wpOp P ops Q i (fun a' w' => (i ∉ Z → S w') ∧ wpAnyL P md ops Q S Z fuel (listed.setIfInBounds i true) a' w') a w
theorem wpAny_of_L : ∀ (fuel : Nat) (listed : Array Bool) (a : Act) (w : World), wpAnyL P md ops Q S Z fuel listed a w → wpAny P md ops Q fuel listed a w
  | 0, _, _, _, h => h
  | fuel + 1, _, _, _, h => ⟨h.1, fun i hi => wpOp_mono (fun a' w' h' => wpAny_of_L fuel _ a' w' h'.2) (h.2 i hi)⟩
/-- Operations that wait for i, directly or through others. -/
def waits (md : Region.Mode) (ops : Array Oper) (i : Nat) : List Nat := (List.range ops.size).foldl (fun D y => if ((ops[y]?.map fun o => o.after.any fun e => Region.binds md e && (e.on == i || D.contains e.on)).getD false) = true then y :: D else D) []
/-- D waits for i, is not listed yet, and holds all of Z. -/
def waitOk (md : Region.Mode) (ops : Array Oper) (listed : Array Bool) (Z : List Nat) (i : Nat) (D : List Nat) : Bool :=
  Z.all (fun z => D.contains z) && D.all fun y => (!listed.getD y true) && ((ops[y]?.map fun o => o.after.any fun e => Region.binds md e && (e.on == i || D.contains e.on)).getD false)
def Closed (md : Region.Mode) (ops : Array Oper) (listed : Array Bool) (Z : List Nat) (i : Nat) (D : List Nat) : Prop :=
  (∀ z ∈ Z, z ∈ D) ∧ ∀ y ∈ D, listed.getD y true = false ∧ ∃ o, ops[y]? = some o ∧ ∃ e ∈ o.after, Region.binds md e = true ∧ (e.on = i ∨ e.on ∈ D)
theorem closed_of {listed : Array Bool} {i : Nat} {D : List Nat} (h : waitOk md ops listed Z i D = true) : Closed md ops listed Z i D := by
  unfold waitOk at h
  simp only [Bool.and_eq_true, List.all_eq_true, List.contains_iff_mem, Bool.not_eq_true'] at h
  refine ⟨fun z hz => by simpa using h.1 z hz, fun y hy => ?_⟩
  obtain ⟨h1, h2⟩ := h.2 y hy
  refine ⟨h1, ?_⟩
  cases ho : ops[y]? with
  | none => rw [ho] at h2; simp at h2
  | some o =>
    rw [ho] at h2
    simp only [Option.map_some, Option.getD_some] at h2
    rw [Array.any_eq_true] at h2
    obtain ⟨k, hk, h3⟩ := h2
    simp only [Bool.and_eq_true, Bool.or_eq_true, beq_iff_eq] at h3
    exact ⟨o, rfl, o.after[k], Array.getElem_mem hk, h3.1, by simpa using h3.2⟩
theorem Closed.not_ready {listed : Array Bool} {i : Nat} {D : List Nat} (h : Closed md ops listed Z i D) (hi : i ∈ Region.ready md ops listed) {j : Nat} (hj : j ∈ Region.ready md ops listed) : j ∉ D := fun hD => by
  obtain ⟨_, o, ho, e, he, hb, hon⟩ := h.2 j hD
  obtain ⟨hjun, oj, hoj, hall⟩ := mem_ready.1 hj
  rw [ho] at hoj
  injection hoj with hoj
  subst hoj
  have h1 := hall e he hb
  have key : ∀ k, listed.getD k true = false → listed[k]?.getD true = true → False := fun k a b => by
    rw [Array.getD_eq_getD_getElem?] at a
    rw [a] at b; cases b
  rcases hon with hon | hon
  · have h0 := (mem_ready.1 hi).1
    rw [← hon] at h0
    rcases Nat.lt_or_ge e.on listed.size with h' | h'
    · simp [h'] at h0 h1; rw [h0] at h1; cases h1
    · simp [Array.getElem?_eq_none h'] at h1
  · have h0 := (h.2 _ hon).1
    rcases Nat.lt_or_ge e.on listed.size with h' | h'
    · simp [h'] at h0 h1; rw [h0] at h1; cases h1
    · simp [Array.getElem?_eq_none h'] at h1
theorem wpAnyL_first {i : Nat} {oi : Oper} {v : Value} {D : List Nat} (hi : ops[i]? = some oi) (hsel : ∀ (j : Nat) (o : Oper) cs b, ops[j]? = some o → o.op ≠ .select cs b)
    (hQ : ∀ c a w, Q (.panic c) (a.put oi.dst v) w → Q (.panic c) a w) (hiZ : i ∉ D) :
    ∀ (fuel : Nat) (listed : Array Bool) (a : Act) (w : World),
      (∀ j oj, ops[j]? = some oj → j ≠ i → listed.getD j true = false → (∀ e ∈ oj.after, Region.binds md e = true → e.on ≠ i) → oi.apart ops oj = true) →
      i ∈ Region.ready md ops listed → Closed md ops listed Z i D → YieldsIf P ops S oi v a → S w →
      wpAnyL P md ops Q S Z fuel (listed.setIfInBounds i true) (a.put oi.dst v) w → wpAnyL P md ops Q S Z (fuel + 1) listed a w := by
  intro fuel
  induction fuel with
  | zero =>
    intro listed a w _ hr _ hy hS H
    refine ⟨fun h => (by rw [h] at hr; cases hr), fun j hj => ?_⟩
    by_cases hji : j = i
    · subst hji; exact hy.wpOp hi hS ⟨fun _ => hS, H⟩
    · have := ready_mono hj hji
      rw [H.1] at this
      cases this
  | succ fuel ih =>
    intro listed a w hfree hr hC hy hS H
    refine ⟨fun h => (by rw [h] at hr; cases hr), fun j hj => ?_⟩
    by_cases hji : j = i
    · subst hji; exact hy.wpOp hi hS ⟨fun _ => hS, H⟩
    · have h1 := H.2 j (ready_mono hj hji)
      have hjD := hC.not_ready hr hj
      have hjZ : j ∉ Z := fun h => hjD (hC.1 j h)
      obtain ⟨hjun, oj, hoj, hall⟩ := mem_ready.1 hj
      have hnot : ∀ e ∈ oj.after, Region.binds md e = true → e.on ≠ i := fun e he hb heq => by
        have h1 := hall e he hb
        have h0 := (mem_ready.1 hr).1
        rw [heq] at h1
        rcases Nat.lt_or_ge i listed.size with h' | h'
        · simp [h'] at h0 h1; rw [h0] at h1; cases h1
        · simp [Array.getElem?_eq_none h'] at h1
      have h2 := wpOp_putIf hoj (hfree j oj hoj hji hjun hnot) (fun cs b => hsel i oi cs b hi) (fun cs b => hsel j oj cs b hoj) hQ hy h1
      have hfree' : ∀ k ok, ops[k]? = some ok → k ≠ i → (listed.setIfInBounds j true).getD k true = false →
          (∀ e ∈ ok.after, Region.binds md e = true → e.on ≠ i) → oi.apart ops ok = true := fun k ok hk hki hun hno => by
        refine hfree k ok hk hki ?_ hno
        by_cases hjk : j = k
        · subst hjk; exact hjun
        · rw [getD_set_ne true hjk] at hun; exact hun
      have hC' : Closed md ops (listed.setIfInBounds j true) Z i D := ⟨hC.1, fun y hy => by
        obtain ⟨h0, h3⟩ := hC.2 y hy
        refine ⟨?_, h3⟩
        rw [getD_set_ne true (fun e => hjD (by rw [e]; exact hy))]; exact h0⟩
      refine wpOp_mono (fun a' w' h3 => ⟨fun _ => h3.2.1 hjZ, ih (listed.setIfInBounds j true) a' w' hfree' (ready_mono hr (Ne.symm hji)) hC' h3.1 (h3.2.1 hjZ) ?_⟩) h2
      rw [Array.setIfInBounds_comm _ _ hji]
      exact h3.2.2
theorem at_drop {ops : Array Oper} {i : Nat} {oi : Oper} {rest : List Oper} (h : ops.toList.drop i = oi :: rest) : ops[i]? = some oi := by
  have : (ops.toList.drop i)[0]? = some oi := by rw [h]; rfl
  rw [List.getElem?_drop, Nat.add_zero] at this
  simpa using this
/-- Take number i first. -/
theorem wpAnyL_take {i : Nat} {oi : Oper} {rest : List Oper} {v : Value} {fuel : Nat} {listed : Array Bool} {a : Act} {w : World} (hi : ops.toList.drop i = oi :: rest)
    (hs : (Region.noSelect ops && (Region.free md ops listed i && ((Region.ready md ops listed).contains i && (waitOk md ops listed Z i (waits md ops i) && !(waits md ops i).contains i)))) = true)
    (hQ : ∀ c a w, Q (.panic c) (a.put oi.dst v) w → Q (.panic c) a w) (hy : YieldsIf P ops S oi v a) (hS : S w)
    (h : wpAnyL P md ops Q S Z fuel (listed.setIfInBounds i true) (a.put oi.dst v) w) : wpAnyL P md ops Q S Z (fuel + 1) listed a w := by
  simp only [Bool.and_eq_true, Bool.not_eq_true'] at hs
  obtain ⟨h1, h2, h3, h4, h5⟩ := hs
  exact wpAnyL_first (D := waits md ops i) (at_drop hi) (Region.noSelect_spec h1) hQ (fun h => by rw [List.contains_iff_mem.2 h] at h5; cases h5) fuel listed a w (Region.free_spec (at_drop hi) h2) (by simpa using h3) (closed_of h4) hy hS h
theorem wpAnyL_norm {fuel : Nat} {listed : Array Bool} {a a' : Act} {w : World} (ha : a = a') (h : wpAnyL P md ops Q S Z fuel listed a' w) : wpAnyL P md ops Q S Z fuel listed a w := ha ▸ h
def AllReadyL (P : Program) (md : Region.Mode) (ops : Array Oper) (Q : Exit → Act → World → Prop) (S : World → Prop) (Z : List Nat) (fuel : Nat) (listed : Array Bool) (a : Act) (w : World) (rs : List Nat) : Prop :=
  ∀ i ∈ rs, wpOp P ops Q i (fun a' w' => (i ∉ Z → S w') ∧ wpAnyL P md ops Q S Z fuel (listed.setIfInBounds i true) a' w') a w
theorem AllReadyL.nil {fuel : Nat} {listed : Array Bool} {a : Act} {w : World} : AllReadyL P md ops Q S Z fuel listed a w [] := fun _ h => by cases h
theorem AllReadyL.cons {fuel : Nat} {listed : Array Bool} {a : Act} {w : World} {i : Nat} {o : Oper} {rest : List Oper} {rs : List Nat} (ho : ops.toList.drop i = o :: rest)
    (h : ∀ K' : Act → World → Prop, Shut (∀ a w, (i ∉ Z → S w) → ((i ∉ Z → S w) → wpAnyL P md ops Q S Z fuel (listed.setIfInBounds i true) a w) → K' a w) → if Region.wanted o (yielded ops a.tmps) = true then Oper.wp P o a w K' Q else K' (a.put o.dst undef) w)
    (hs : AllReadyL P md ops Q S Z fuel listed a w rs) : AllReadyL P md ops Q S Z fuel listed a w (i :: rs) := fun j hj => by
  rcases List.mem_cons.1 hj with rfl | hj
  · exact wpOp_step (at_drop ho) (fun K' hK => h K' (fun a w hS hW => hK a w ⟨hS, hW hS⟩))
  · exact hs j hj
theorem wpAnyL_ready {rs : List Nat} {fuel : Nat} {listed : Array Bool} {a : Act} {w : World} (hr : Region.ready md ops listed = rs) (hne : rs ≠ [])
    (h : AllReadyL P md ops Q S Z fuel listed a w rs) : wpAnyL P md ops Q S Z (fuel + 1) listed a w := ⟨fun h0 => absurd (hr ▸ h0) hne, hr ▸ h⟩
theorem wpAnyL_done {listed : Array Bool} {a : Act} {w : World} (hr : Region.ready md ops listed = []) (h : Q .normal a w) : ∀ fuel, wpAnyL P md ops Q S Z fuel listed a w
  | 0 => ⟨hr, h⟩
  | _ + 1 => ⟨fun _ => h, by rw [hr]; simp⟩
theorem wp_region_L {id : Nat} {a : Act} {w : World} (S : World → Prop) (Z : List Nat) (hm : P.follows .mixedOrders = true) (hS : S w.drew)
    (h : S w.drew → wpAnyL P .any ops Q S Z ops.size (Array.replicate ops.size false) a w.drew) : (Code.region id ops true).wp P Q a w :=
  wp_region_any hm (wpAny_of_L _ _ _ _ (h hS))
theorem yields_load_at {o : Oper} {a : Act} (ty : TypeId) (x : Operand) (ho : o.op = .load ty x) (ad : Addr) (hx : a.eval x = .pointer (some ad)) (cs : List Value) (d : TypeDesc)
    (hc : ∀ W, S W → ∀ j v, cs[j]? = some v → W.cell? (ad.add j) = some v)
    (hu : P.underlying ty = some d) (hd : (match d with | .struct _ | .array _ _ => true | _ => false) = true) (hi : (P.info? ty).map (·.size) = some cs.length) (hw : Region.wanted o (yielded ops a.tmps) = true) : YieldsIf P ops S o (.agg cs.toArray) a :=
  Or.inl ⟨hw, fun w hS => by
    unfold execOp
    simp only [ho, hx, Instr.loadAt, Instr.sureAddr, Sem.run_bind, Sem.run_pure, Result.andThen_ok, run_loadVar_at w ty ad cs d (hc w hS) hu hd hi]⟩
theorem wp_buildSl {K : Act → World → Prop} {Q : Exit → Act → World → Prop} {o : Oper} {a : Act} {w : World} (t len : Nat) (parts : Array (Nat × Operand)) (lit : Array (Nat × Value)) (v : Value) (w' : World)
    (hr : (Instr.buildSlice t len lit).run P w = .ok v w') (ho : o.op = .buildSlice t len parts) (hp : (parts.map fun (i, x) => (i, a.eval x)) = lit) (h : K (a.put o.dst v) w') : o.wp P a w K Q := by
  unfold Oper.wp execOp
  simp only [ho, hp, Sem.run_bind, hr, Result.andThen_ok, Sem.run_pure]
  exact h
end
end Go.Proofs.YthjbnbimfpbccaaGreatDoor
/-
  Lists of regions in memory, two cells each; copies between such lists. Condition: the places lie within the blocks.
-/

set_option linter.unusedVariables false
namespace Go.Proofs.YthjbnbimfpbccaaGreatDoor
open Go.ChangeShapes Go.WideShapes Go.ChangeAt Go.RowKit
def rgv (l : List (Nat × Nat)) : List Value := l.flatMap fun r => [.int .u32 r.1, .int .u32 r.2]
theorem rgv_len : ∀ l : List (Nat × Nat), (rgv l).length = l.length * 2
  | [] => rfl
  | r :: l => by have := rgv_len l; unfold rgv at this ⊢; rw [List.flatMap_cons, List.length_append, this]; simp; omega
theorem rgv_append (a b : List (Nat × Nat)) : rgv (a ++ b) = rgv a ++ rgv b := by unfold rgv; exact List.flatMap_append
theorem rgv_cons (r : Nat × Nat) (b : List (Nat × Nat)) : rgv (r :: b) = [.int .u32 r.1, .int .u32 r.2] ++ rgv b := by unfold rgv; rw [List.flatMap_cons]
theorem rgv_take (l : List (Nat × Nat)) (k : Nat) : rgv (l.take k) = (rgv l).take (k * 2) := by
  induction l generalizing k with
  | nil => simp [rgv]
  | cons r l ih =>
    cases k with
    | zero => simp [rgv]
    | succ k => rw [List.take_succ_cons, rgv_cons, rgv_cons, ih, show (k + 1) * 2 = k * 2 + 1 + 1 by omega]; rfl
theorem rgv_drop (l : List (Nat × Nat)) (k : Nat) : rgv (l.drop k) = (rgv l).drop (k * 2) := by
  induction l generalizing k with
  | nil => simp [rgv]
  | cons r l ih =>
    cases k with
    | zero => simp [rgv]
    | succ k => rw [List.drop_succ_cons, rgv_cons, ih, show (k + 1) * 2 = k * 2 + 1 + 1 by omega]; rfl
theorem rgv_one (l : List (Nat × Nat)) : ∀ v ∈ rgv l, v.oneCell' = true := fun v hv => by
  unfold rgv at hv
  obtain ⟨r, _, h⟩ := List.mem_flatMap.1 hv
  simp at h
  rcases h with rfl | rfl <;> rfl
theorem rgv_get (l : List (Nat × Nat)) (i : Nat) (r : Nat × Nat) (h : l[i]? = some r) : (rgv l)[i * 2]? = some (.int .u32 r.1) ∧ (rgv l)[i * 2 + 1]? = some (.int .u32 r.2) := by
  have hi := (List.getElem?_eq_some_iff.1 h).1
  have e : l.drop i = r :: l.drop (i + 1) := by rw [List.drop_eq_getElem_cons hi]; congr 1; rw [List.getElem?_eq_getElem hi] at h; injection h
  have e2 := rgv_drop l i
  rw [e, rgv_cons] at e2
  have h0 : ((rgv l).drop (i * 2))[0]? = some (.int .u32 r.1) := by rw [← e2]; rfl
  have h1 : ((rgv l).drop (i * 2))[1]? = some (.int .u32 r.2) := by rw [← e2]; rfl
  rw [List.getElem?_drop] at h0 h1
  exact ⟨h0, h1⟩
theorem infoRg : (Tryz.prog.info? 45).map (fun i => (i.zero, i.size, i.bytes)) = some (some (.agg #[.int .u32 0, .int .u32 0]), 2, 8) := by kernel_rfl
theorem infoRgS : (Tryz.prog.info? 45).map (·.size) = some 2 := by kernel_rfl
section
variable {P : Program}
theorem run_copy_min (w : World) (dT sT ty elem : TypeId) (s g o nd ns n dCap : Nat) (hmin : Nat.min ns nd = n) (a : Addr) (sCap : Nat) (cur : Array Value) (t : TypeId) (cs : List Value)
    (hu : P.underlying dT = some (.slice elem)) (hs : (P.info? elem).map (·.size) = some s)
    (hg : w.heap[g]? = some (.cells cur t (0, 0))) (hn : cs.length = n * s)
    (hsrc : ∀ j v, cs[j]? = some v → w.cell? (a.add j) = some v) (hfit : o + cs.length ≤ cur.size) (h1 : ∀ v ∈ cs, v.oneCell' = true) :
    (Builtin.copy_ #[dT, sT] ty #[.slice (some ⟨g, o, none⟩) nd dCap, .slice (some a) ns sCap]).run P w =
      .ok (goInt n) (w.setRow g (cur.toList.take o ++ cs ++ cur.toList.drop (o + cs.length)).toArray) := by
  have hl := run_loadCells_list (P := P) w a cs hsrc
  have hst := run_storeCells_at P g o t cs 0 cur w hg (by simpa using hfit) h1
  cases hq : P.info? elem with
  | none => simp [hq] at hs
  | some i =>
    have hi : i.size = s := by simpa [hq] using hs
    rw [hn] at hl hst
    simp [Builtin.copy_, run_underlying hu, Builtin.lenOf, Builtin.firstCells, sizeOf, typeInfo, hq, hi, hl, hst, hn, hmin]
theorem wp_copy_run {o : Oper} {a : Act} {w : World} {K : Act → World → Prop} {Q : Exit → Act → World → Prop} (d s : Operand) (t t' : TypeId)
    (ho : o.op = .call { callee := .builtin .copy, args := #[d, s], argTypes := #[t, t'] }) (v u : Value) (hd : a.eval d = v) (hs : a.eval s = u) {v' : Value} {w' : World}
    (hr : (Builtin.copy_ #[t, t'] o.type #[v, u]).run P w = .ok v' w') (h : K (a.put o.dst v') w') : o.wp P a w K Q := by
  unfold Oper.wp execOp
  simp only [ho, resolve, invoke, builtin, Sem.run_bind, Sem.run_pure, Result.andThen_ok, List.map_toArray, List.map_cons, List.map_nil, hd, hs, hr]
  exact h
theorem wpList_copy_at {ops : Array Oper} {rest : List Oper} {o : Oper} {a : Act} {w : World} {Q : Exit → Act → World → Prop} (hgd : o.guard = none) (d s : Operand) (t t' : TypeId)
    (ho : o.op = .call { callee := .builtin .copy, args := #[d, s], argTypes := #[t, t'] }) (v u : Value) (hd : a.eval d = v) (hs : a.eval s = u) {v' : Value} {w' : World}
    (hr : (Builtin.copy_ #[t, t'] o.type #[v, u]).run P w = .ok v' w') (h : wpList P ops Q rest (a.put o.dst v') w') : wpList P ops Q (o :: rest) a w :=
  wpList_plain hgd fun K hK => wp_copy_run d s t t' ho v u hd hs hr (hK _ _ h)
end
/-- The block behind a list. -/
theorem rows_open {w : World} {b n : Nat} {v : Value} {xs : List Value} (h : w.ownsRow b 45 2 v n xs) : (v = .slice none 0 0 ∧ n = 0) ∨ ∃ g cap cur, v = .slice (some ⟨g, 0, none⟩) n cap ∧ b ≤ g ∧ At w g 45 cur ∧ n ≤ cap ∧ cap ≤ maxLen ∧ cur.size = cap * 2 ∧ cur.toList.take (n * 2) = xs := h.2
theorem rows_at {w : World} {g n cap : Nat} {cur : Array Value} {xs : List Value} (ha : At w g 45 cur) (ht : cur.toList.take (n * 2) = xs) (k j : Nat) (v : Value) (hv : (xs.drop k)[j]? = some v) : w.cell? ⟨g, k + j, none⟩ = some v := by
  rw [ha.cell]
  rw [List.getElem?_drop, ← ht, List.getElem?_take] at hv
  split at hv
  · simpa using hv
  · cases hv
end Go.Proofs.YthjbnbimfpbccaaGreatDoor
/-
  slices.Insert of one region. Condition: a list of a hundred thousand at most.
-/


set_option linter.unusedVariables false
namespace Go.Proofs.YthjbnbimfpbccaaGreatDoor
open Go.ChangeShapes Go.WideShapes Go.ChangeAt Go.RowKit
def insL (l : List (Nat × Nat)) (i : Nat) (r : Nat × Nat) : List (Nat × Nat) := l.take i ++ r :: l.drop i
theorem insL_len (l : List (Nat × Nat)) (i : Nat) (r : Nat × Nat) (h : i ≤ l.length) : (insL l i r).length = l.length + 1 := by unfold insL; simp; omega
theorem insL_end (l : List (Nat × Nat)) (r : Nat × Nat) : insL l l.length r = l ++ [r] := by unfold insL; simp
theorem put_take (X R : List Value) (k m : Nat) (hm : k + R.length = m) (h : m ≤ X.length) : (X.take k ++ R ++ X.drop m).take m = X.take k ++ R := by
  rw [List.take_append_of_le_length (by rw [List.length_append, List.length_take]; omega), List.take_of_length_le (by rw [List.length_append, List.length_take]; omega)]
theorem put_len (X R : List Value) (k m : Nat) (hm : k + R.length = m) (h : m ≤ X.length) : (X.take k ++ R ++ X.drop m).length = X.length := by
  rw [List.length_append, List.length_append, List.length_take, List.length_drop]; omega
section
variable (w : World) (l : List (Nat × Nat)) (r : Nat × Nat) (q : Nat) (hq : At w q 45 #[.int .u32 r.1, .int .u32 r.2]) (hl : l.length ≤ 100000)
include hq hl
set_option maxHeartbeats 2000000 in
set_option maxRecDepth 100000 in
theorem insert_end (v : Value) (hv : w.ownsRow 0 45 2 v l.length (rgv l)) :
    Calls Tryz.prog 102 #[v, .int .i64 l.length, .slice (some ⟨q, 0, none⟩) 1 1] w fun e w' => ∃ v', e = .returned v' ∧ w'.ownsRow 0 45 2 v' (l.length + 1) (rgv (insL l l.length r)) ∧ Fr v.ownBlock.toList w w' ∧ ∀ g, v'.ownBlock = some g → v.ownBlock = some g ∨ w.heap.size ≤ g := by
  obtain ⟨i0, hi, hz0, hz1, hz2⟩ := info_parts infoRg
  have HQ := Lib.hid hq
  have hnews := Lib.hid fun j u (hu : [Value.int .u32 (r.1 : Int), .int .u32 (r.2 : Int)][j]? = some u) => show w.cell? ((⟨q, 0, none⟩ : Addr).add j) = some u by
    rw [Go.WideShapes.add_plain, Nat.zero_add, hq.cell, List.getElem?_toArray]; exact hu
  have hone := Lib.hid (show ∀ u ∈ [Value.int .u32 (r.1 : Int), .int .u32 (r.2 : Int)], u.oneCell' = true from fun u hu => by simp at hu; rcases hu with rfl | rfl <;> rfl)
  have HE := Lib.hid (show rgv (insL l l.length r) = rgv l ++ [.int .u32 (r.1 : Int), .int .u32 (r.2 : Int)] by rw [insL_end, rgv_append, rgv_cons]; rfl)
  have HV := Lib.hid hv
  obtain ⟨n, hn⟩ : ∃ n, l.length = n := ⟨_, rfl⟩
  rw [hn] at hl HE HV ⊢
  obtain ⟨va, vc, rfl, hvc⟩ := own_slice HV.out
  have hvm := own_len HV.out
  have ho := rows_open HV.out
  have HNE := Lib.hid hn
  clear hq hv hn
  rcases ho with ⟨e1, e2⟩ | ⟨g, cap, cur, e1, -, -, hc1, hc2, -⟩
  · injection e1 with e1 e3 e4
    subst e1 e2 e4
    go_enter Tryz.func102, Tryz.ntmps102
    go_wp2_with (at_builtin; refine wpList_append_own_at _ rfl (.tmp 23) (.tmp 24) 35 rfl 0 45 i0 (.agg #[.int .u32 0, .int .u32 0]) 2 8 Tryz.underlying35 hi hz0 hz1 hz2 rfl (by omega) (.slice none 0 0) 0 (rgv l) rfl HV.out ⟨q, 0, none⟩ 1 1 [.int .u32 (r.1 : Int), .int .u32 (r.2 : Int)] rfl rfl hnews.out hone.out (by unfold maxLen; omega) (by omega) (Nat.zero_le _) ?_; intro v1 w1 hown1 hg1 hnil hat1)
    go_ret
    exact ⟨v1, rfl, by rw [HE.out]; exact hown1, Fr.grown hg1, fun g hg => by rcases hat1 with h | h <;> rw [h] at hg; exact .inl hg; injection hg with hg; exact .inr (by omega)⟩
  · injection e1 with e1 e3 e4
    subst e1 e4
    unfold maxLen at hc2
    by_cases hcn : vc = n
    · subst hcn
      go_enter Tryz.func102, Tryz.ntmps102
      go_wp2_with (at_builtin; refine wpList_append_own_at _ rfl (.tmp 23) (.tmp 24) 35 rfl 0 45 i0 (.agg #[.int .u32 0, .int .u32 0]) 2 8 Tryz.underlying35 hi hz0 hz1 hz2 rfl (by omega) (.slice (some ⟨g, 0, none⟩) vc vc) vc (rgv l) rfl HV.out ⟨q, 0, none⟩ 1 1 [.int .u32 (r.1 : Int), .int .u32 (r.2 : Int)] rfl rfl hnews.out hone.out (by unfold maxLen; omega) (by omega) (Nat.zero_le _) ?_; intro v1 w1 hown1 hg1 hnil hat1)
      go_ret
      exact ⟨v1, rfl, by rw [HE.out]; exact hown1, Fr.grown hg1, fun g' hg => by rcases hat1 with h | h <;> rw [h] at hg; exact .inl hg; injection hg with hg; exact .inr (by omega)⟩
    · go_enter Tryz.func102, Tryz.ntmps102
      go_wp2_with (at_builtin; refine wpList_append_own_at _ rfl (.tmp 23) (.tmp 24) 35 rfl 0 45 i0 (.agg #[.int .u32 0, .int .u32 0]) 2 8 Tryz.underlying35 hi hz0 hz1 hz2 rfl (by omega) (.slice (some ⟨g, 0, none⟩) n vc) n (rgv l) rfl HV.out ⟨q, 0, none⟩ 1 1 [.int .u32 (r.1 : Int), .int .u32 (r.2 : Int)] rfl rfl hnews.out hone.out (by unfold maxLen; omega) (by omega) (Nat.zero_le _) ?_; intro v1 w1 hown1 hg1 hnil hat1)
      go_ret
      exact ⟨v1, rfl, by rw [HE.out]; exact hown1, Fr.grown hg1, fun g' hg => by rcases hat1 with h | h <;> rw [h] at hg; exact .inl hg; injection hg with hg; exact .inr (by omega)⟩
set_option maxHeartbeats 4000000 in
set_option maxRecDepth 100000 in
theorem insert_grow (g : Nat) (i : Nat) (cur : Array Value) (hA : At w g 45 cur) (ht : cur.toList.take (l.length * 2) = rgv l) (hin : i < l.length) :
    Calls Tryz.prog 102 #[.slice (some ⟨g, 0, none⟩) l.length l.length, .int .i64 i, .slice (some ⟨q, 0, none⟩) 1 1] w fun e w' => ∃ v', e = .returned v' ∧ w'.ownsRow 0 45 2 v' (l.length + 1) (rgv (insL l i r)) ∧ Fr [] w w' ∧ ∀ g, v'.ownBlock = some g → w.heap.size ≤ g := by
  obtain ⟨i0, hi, hz0, hz1, hz2⟩ := info_parts infoRg
  have HQ := Lib.hid hq
  have HA := Lib.hid hA
  have hone : ∀ u ∈ [Value.int .u32 (r.1 : Int), .int .u32 (r.2 : Int)], u.oneCell' = true := fun u hu => by simp at hu; rcases hu with rfl | rfl <;> rfl
  have hcl := rgv_len l
  have h1c := rgv_one l
  obtain ⟨n, hn⟩ : ∃ n, l.length = n := ⟨_, rfl⟩
  rw [hn] at hl hin ht hcl ⊢
  have htk : (rgv (l.take i)).length = i * 2 := by rw [rgv_len, List.length_take]; omega
  have hdl : (rgv (l.drop i)).length = (n - i) * 2 := by rw [rgv_len, List.length_drop]; omega
  have hold : (Builtin.firstCells i0.size i (.slice (some ⟨g, 0, none⟩) i n)).run Tryz.prog w.drew = .ok (rgv (l.take i)).toArray w.drew := by
    rw [hz1]
    refine run_firstCells_some w.drew 2 i ⟨g, 0, none⟩ i n (rgv (l.take i)) (by rw [htk]) (fun j v hj => ?_)
    rw [Addr.add_lit]
    rw [rgv_take, List.getElem?_take] at hj
    split at hj
    · exact rows_at (w := w.drew) (n := n) (cap := n) (hA.hp rfl) ht 0 j v (by simpa using hj)
    · cases hj
  have hkk : (n : Int) + 1 - (i : Int) = ((n + 1 - i : Nat) : Int) := by omega
  have hik : i + (n + 1 - i) = n + 1 := by omega
  have hrz : ∀ ty, (Builtin.append_ #[35, 3] ty #[.slice (some ⟨g, 0, none⟩) i n, .int .i64 ((n : Int) + 1 - (i : Int))]).run Tryz.prog w =
      .ok (.slice (some ⟨w.heap.size, 0, none⟩) (n + 1) (grownCap w (n + 1) n 45)) (w.drew.alloc (.cells ((rgv (l.take i)).toArray ++ Builtin.zeroCells #[.int .u32 0, .int .u32 0] (n + 1 - i) ++ Builtin.zeroCells #[.int .u32 0, .int .u32 0] (grownCap w (n + 1) n 45 - (n + 1))) 45)) := fun ty => by
    have h := Lib.run_append_grow_zeros w 35 3 ty 45 i0 _ .i64 .i64 Tryz.underlying35 Tryz.underlying3 hi hz0 (some ⟨g, 0, none⟩) i n (rgv (l.take i)) hold (n + 1 - i) (by omega) (by omega) (by omega) (by omega) (by rw [hz2]; omega) (by rw [hz2, hik]; exact growslice_fits (by omega) (by omega))
    rw [hik] at h
    rw [hkk]
    exact h
  obtain ⟨G, hG⟩ : ∃ G, G = grownCap w (n + 1) n 45 := ⟨_, rfl⟩
  have hGn : n + 1 ≤ G := by rw [hG]; exact grownCap_ge w _ _ _
  have hG63 : G ≤ 9223372036854775807 := by
    have := grownCap_le_maxLen w (n + 1) n 45 (by unfold maxLen; omega)
    rw [← hG] at this
    unfold maxLen at this
    omega
  obtain ⟨ROW, hROW⟩ : ∃ ROW : Array Value, ROW = (rgv (l.take i)).toArray ++ Builtin.zeroCells #[.int .u32 0, .int .u32 0] (n + 1 - i) ++ Builtin.zeroCells #[.int .u32 0, .int .u32 0] (G - (n + 1)) := ⟨_, rfl⟩
  rw [← hG, ← hROW] at hrz
  have hzs : ∀ k, (Builtin.zeroCells #[Value.int .u32 0, .int .u32 0] k).size = k * 2 := fun k => by
    rw [size_zeroCells]; rfl
  have hRs : ROW.size = G * 2 := by rw [hROW, Array.size_append, Array.size_append, hzs, hzs, List.size_toArray, htk]; omega
  have hRt : ROW.toList.take (i * 2) = rgv (l.take i) := by
    rw [hROW, Array.append_assoc, Array.toList_append, List.take_append_of_le_length (by simp [htk]), List.take_of_length_le (by simp [htk])]
  obtain ⟨W1, hW1⟩ : ∃ W1, W1 = w.drew.alloc (.cells ROW 45) := ⟨_, rfl⟩
  have F1 : Fr [] w W1 := by rw [hW1]; exact (Fr.refl [] w).drew.alloc _
  have A1 : At W1 w.heap.size 45 ROW := by rw [hW1]; exact At.new w.drew _ _
  rw [← hW1] at hrz
  clear hW1 hROW hG hold
  have hneq : q ≠ w.heap.size := by have := HQ.out.lt; omega
  have hneg : g ≠ w.heap.size := by have := HA.out.lt; omega
  have hrow : ROW.toList.length = G * 2 := by rw [Array.length_toList]; exact hRs
  obtain ⟨C2, hC2⟩ : ∃ C : List Value, C = ROW.toList.take (i * 2) ++ [.int .u32 (r.1 : Int), .int .u32 (r.2 : Int)] ++ ROW.toList.drop (i * 2 + 2) := ⟨_, rfl⟩
  have hC2l : C2.length = G * 2 := by rw [hC2, put_len ROW.toList [.int .u32 (r.1 : Int), .int .u32 (r.2 : Int)] (i * 2) (i * 2 + 2) rfl (by rw [hrow]; omega), hrow]
  have hC2t : C2.take ((i + 1) * 2) = rgv (l.take i) ++ [.int .u32 (r.1 : Int), .int .u32 (r.2 : Int)] := by
    rw [hC2, show (i + 1) * 2 = i * 2 + 2 by omega, put_take ROW.toList [.int .u32 (r.1 : Int), .int .u32 (r.2 : Int)] (i * 2) (i * 2 + 2) rfl (by rw [hrow]; omega), hRt]
  have hcpA : ∀ ty dc, (Builtin.copy_ #[35, 35] ty #[.slice (some ⟨w.heap.size, i * 2, none⟩) (n + 1 - i) dc, .slice (some ⟨q, 0, none⟩) 1 1]).run Tryz.prog W1 = .ok (goInt 1) (W1.setRow w.heap.size C2.toArray) := fun ty dc => by
    rw [hC2]
    exact run_copy_min W1 _ _ ty 45 2 w.heap.size (i * 2) (n + 1 - i) 1 1 dc (by simp only [Nat.min_def]; split <;> omega) ⟨q, 0, none⟩ 1 ROW 45 [.int .u32 (r.1 : Int), .int .u32 (r.2 : Int)] Tryz.underlying35 infoRgS A1 rfl
      (fun j v hj => by rw [Go.WideShapes.add_plain, Nat.zero_add, (HQ.out.fr F1 (by simp)).cell, List.getElem?_toArray]; exact hj) (by rw [hRs]; simp; omega) hone
  obtain ⟨W2, hW2⟩ : ∃ W, W1.setRow w.heap.size C2.toArray = W := ⟨_, rfl⟩
  have A2 : At W2 w.heap.size 45 C2.toArray := by rw [← hW2]; exact setRow_heap W1 w.heap.size _ _ _ (0, 0) A1
  have F2 : Fr [w.heap.size] W1 W2 := by rw [← hW2]; exact Fr.setRow W1 _ _
  have G2 : At W2 g 45 cur := (HA.out.fr F1 (by simp)).fr F2 (by simpa using hneg)
  rw [hW2] at hcpA
  obtain ⟨C3, hC3⟩ : ∃ C : List Value, C = C2.take ((i + 1) * 2) ++ rgv (l.drop i) ++ C2.drop ((n + 1) * 2) := ⟨_, rfl⟩
  have hC3l : C3.length = G * 2 := by rw [hC3, put_len C2 (rgv (l.drop i)) ((i + 1) * 2) ((n + 1) * 2) (by rw [hdl]; omega) (by omega), hC2l]
  have hC3t : C3.take ((n + 1) * 2) = rgv (insL l i r) := by
    rw [hC3, put_take C2 (rgv (l.drop i)) ((i + 1) * 2) ((n + 1) * 2) (by rw [hdl]; omega) (by omega), hC2t]
    unfold insL
    rw [rgv_append, rgv_cons, List.append_assoc]
  have hcpB : ∀ ty dc sc, (Builtin.copy_ #[35, 35] ty #[.slice (some ⟨w.heap.size, (i + 1) * 2, none⟩) (n + 1 - (i + 1)) dc, .slice (some ⟨g, i * 2, none⟩) (n - i) sc]).run Tryz.prog W2.drew = .ok (goInt ((n - i : Nat) : Int)) (W2.drew.setRow w.heap.size C3.toArray) := fun ty dc sc => by
    have := run_copy_min W2.drew 35 35 ty 45 2 w.heap.size ((i + 1) * 2) (n + 1 - (i + 1)) (n - i) (n - i) dc (by simp only [Nat.min_def]; split <;> omega) ⟨g, i * 2, none⟩ sc C2.toArray 45 (rgv (l.drop i)) Tryz.underlying35 infoRgS A2 hdl
      (fun j v hj => by rw [Go.WideShapes.add_plain]; exact rows_at (w := W2.drew) (n := n) (cap := n) (G2.hp rfl) ht (i * 2) j v (by rw [rgv_drop] at hj; exact hj)) (by rw [hdl, List.size_toArray, hC2l]; omega) (rgv_one _)
    rw [hdl, show (i + 1) * 2 + (n - i) * 2 = (n + 1) * 2 by omega, ← hC3] at this
    exact this
  obtain ⟨W3, hW3⟩ : ∃ W, W2.drew.setRow w.heap.size C3.toArray = W := ⟨_, rfl⟩
  have A3 := Lib.hid (show At W3 w.heap.size 45 C3.toArray by rw [← hW3]; exact setRow_heap W2.drew w.heap.size _ _ _ (0, 0) A2)
  have F3 := Lib.hid (show Fr [] w W3 from (F1.trans (F2.trans (show Fr [w.heap.size] W2 W3 from by rw [← hW3]; exact (Fr.refl [w.heap.size] W2).drew.trans (Fr.setRow W2.drew _ _) (fun k hk => .inl hk)) (fun k hk => .inl hk)) (by simp)))
  rw [hW3] at hcpB
  have HT := Lib.hid hC3t
  have HL3 := Lib.hid hC3l
  have HRZ := Lib.hid hrz
  have HCA := Lib.hid hcpA
  have HCB := Lib.hid hcpB
  clear hW2 hW3 hC2 hC3 hC3t hC3l hC2t hC2l hcpA hcpB hrz A1 A2 F1 F2 G2 hRs hRt hrow hzs htk hdl ht hA hq hcl h1c hone hi hz0 hz1 hz2 hkk
  have hw1 : IntKind.i64.wrap ((i : Int) + 1) = (i : Int) + 1 := by rw [IntKind.wrap_i64]; omega
  have hb1 : (0 : Int) ≤ (i : Int) + 1 := by omega
  have hin' : i ≤ n := by omega
  have htn : ((i : Int) + 1).toNat = i + 1 := by omega
  have hGi : ¬ (G = i) := by omega
  have hGim : ¬ (G = i + 1) := by omega
  have hci : ¬ (n = i) := by omega
  have hci' : ¬ ((i : Int) = (n : Int)) := by omega
  go_enter Tryz.func102, Tryz.ntmps102
  go_upto_region 10 with (at_builtin; refine Lib.wpList_append_run _ rfl (.tmp 34) (.tmp 39) _ _ rfl _ _ rfl rfl _ _ (HRZ.out _) ?_)
  go_upto_region 11 with (refine wpList_copy_at rfl (.tmp 43) (.tmp 44) 35 35 rfl (.slice (some ⟨w.heap.size, i * 2, none⟩) (n + 1 - i) (G - i)) (.slice (some ⟨q, 0, none⟩) 1 1) rfl rfl (HCA.out 3 (G - i)) ?_)
  refine wp_region_L (fun _ => True) [] (by kernel_rfl) trivial (fun hHeld => ?_)
  refine wpAnyL_take (i := 0) (v := ?_) rfl (by kernel_rfl) (fun _ _ _ h => h) (Or.inl ⟨by rfl, ?_⟩) (by assumption) ?_; rotate_left; (focus (intro w hSw; skip; go_simp; (try with_reducible rfl))); (try (refine wpAnyL_norm (by simp only [Act.put, List.setIfInBounds_toArray, List.set_cons_zero, List.set_cons_succ]; rfl) ?_))
  refine wpAnyL_take (i := 1) (v := ?_) rfl (by kernel_rfl) (fun _ _ _ h => h) (Or.inl ⟨by rfl, ?_⟩) (by assumption) ?_; rotate_left; (focus (intro w hSw; skip; go_simp; (try with_reducible rfl))); (try (refine wpAnyL_norm (by simp only [Act.put, List.setIfInBounds_toArray, List.set_cons_zero, List.set_cons_succ]; rfl) ?_))
  refine wpAnyL_take (i := 2) (v := ?_) rfl (by kernel_rfl) (fun _ _ _ h => h) (Or.inl ⟨by rfl, ?_⟩) (by assumption) ?_; rotate_left; (focus (intro w hSw; skip; go_simp; (try with_reducible rfl))); (try (refine wpAnyL_norm (by simp only [Act.put, List.setIfInBounds_toArray, List.set_cons_zero, List.set_cons_succ]; rfl) ?_))
  refine wpAnyL_take (i := 3) (v := ?_) rfl (by kernel_rfl) (fun _ _ _ h => h) (Or.inl ⟨by rfl, ?_⟩) (by assumption) ?_; rotate_left; (focus (intro w hSw; skip; go_simp; (try with_reducible rfl))); (try (refine wpAnyL_norm (by simp only [Act.put, List.setIfInBounds_toArray, List.set_cons_zero, List.set_cons_succ]; rfl) ?_))
  refine wpAnyL_take (i := 4) (v := ?_) rfl (by kernel_rfl) (fun _ _ _ h => h) (Or.inl ⟨by rfl, ?_⟩) (by assumption) ?_; rotate_left; (focus (intro w hSw; (have k1 : (0 : Int) ≤ (i : Int) + 1 ∧ (i : Int) + 1 ≤ (n : Int) + 1 := by omega); (have k2 : i + 1 ≤ n + 1 := by omega); go_simp; (try with_reducible rfl))); (try (refine wpAnyL_norm (by simp only [Act.put, List.setIfInBounds_toArray, List.set_cons_zero, List.set_cons_succ]; rfl) ?_))
  refine wpAnyL_take (i := 5) (v := ?_) rfl (by kernel_rfl) (fun _ _ _ h => h) (Or.inl ⟨by rfl, ?_⟩) (by assumption) ?_; rotate_left; (focus (intro w hSw; skip; go_simp; (try with_reducible rfl))); (try (refine wpAnyL_norm (by simp only [Act.put, List.setIfInBounds_toArray, List.set_cons_zero, List.set_cons_succ]; rfl) ?_))
  refine wpAnyL_take (i := 6) (v := ?_) rfl (by kernel_rfl) (fun _ _ _ h => h) (Or.inl ⟨by rfl, ?_⟩) (by assumption) ?_; rotate_left; (focus (intro w hSw; skip; go_simp; (try with_reducible rfl))); (try (refine wpAnyL_norm (by simp only [Act.put, List.setIfInBounds_toArray, List.set_cons_zero, List.set_cons_succ]; rfl) ?_))
  refine wpAnyL_take (i := 7) (v := ?_) rfl (by kernel_rfl) (fun _ _ _ h => h) (Or.inl ⟨by rfl, ?_⟩) (by assumption) ?_; rotate_left; (focus (intro w hSw; skip; go_simp; (try with_reducible rfl))); (try (refine wpAnyL_norm (by simp only [Act.put, List.setIfInBounds_toArray, List.set_cons_zero, List.set_cons_succ]; rfl) ?_))
  refine wpAnyL_ready (rs := [8]) (by kernel_rfl) (by simp) ?_; refine AllReadyL.cons rfl (fun K hK => ?_) AllReadyL.nil
  rw [if_pos (by rfl)]
  refine wp_copy_run (.tmp 50) (.tmp 53) 35 35 rfl (.slice (some ⟨w.heap.size, (i + 1) * 2, none⟩) (n + 1 - (i + 1)) (G - (i + 1))) (.slice (some ⟨g, i * 2, none⟩) (n - i) (n - i)) (by simp [Act.eval]; done) (by simp [Act.eval]; done) (HCB.out 3 (G - (i + 1)) (n - i)) ?_
  refine hK.out _ _ (fun _ => trivial) (fun hHeld' => ?_); have hHeld := hHeld' (by decide); clear hHeld' hK K; (try (refine wpAnyL_norm (by simp only [Act.put, List.setIfInBounds_toArray, List.set_cons_zero, List.set_cons_succ]; rfl) ?_))
  refine wpAnyL_done (by kernel_rfl) ?_ _
  go_wp2_with fail
  go_ret
  refine ⟨_, rfl, ⟨by rw [rgv_len, insL_len _ _ _ (by omega)]; omega, .inr ⟨w.heap.size, G, C3.toArray, rfl, Nat.zero_le _, A3.out, hGn, by unfold maxLen; omega, by rw [List.size_toArray]; exact HL3.out, HT.out⟩⟩, F3.out, fun g' hg => ?_⟩
  simp [Value.ownBlock] at hg
  omega
set_option maxHeartbeats 4000000 in
set_option maxRecDepth 100000 in
theorem insert_shift (g : Nat) (i c : Nat) (cur : Array Value) (hA : At w g 45 cur) (ht : cur.toList.take (l.length * 2) = rgv l) (hs : cur.size = c * 2) (hin : i < l.length) (hc : l.length + 1 ≤ c) (hcm : c ≤ maxLen) (hne : q ≠ g) :
    Calls Tryz.prog 102 #[.slice (some ⟨g, 0, none⟩) l.length c, .int .i64 i, .slice (some ⟨q, 0, none⟩) 1 1] w fun e w' => ∃ v', e = .returned v' ∧ w'.ownsRow 0 45 2 v' (l.length + 1) (rgv (insL l i r)) ∧ Fr [g] w w' ∧ v'.ownBlock = some g := by
  have HQ := Lib.hid hq
  have hone : ∀ u ∈ [Value.int .u32 (r.1 : Int), .int .u32 (r.2 : Int)], u.oneCell' = true := fun u hu => by simp at hu; rcases hu with rfl | rfl <;> rfl
  have hcl := rgv_len l
  obtain ⟨n, hn⟩ : ∃ n, l.length = n := ⟨_, rfl⟩
  rw [hn] at hl hin ht hcl hc ⊢
  unfold maxLen at hcm
  have hdl : (rgv (l.drop i)).length = (n - i) * 2 := by rw [rgv_len, List.length_drop]; omega
  have htk : (rgv (l.take i)).length = i * 2 := by rw [rgv_len, List.length_take]; omega
  have hov : ∀ lb cb, (callFunc 131 #[.slice (some ⟨q, 0, none⟩) 1 1, .slice (some ⟨g, (i + 1) * 2, none⟩) lb cb]).run Tryz.prog w = .ok (.value (.bool false)) w := fun lb cb => by
    have hsa : w.shape? q = some (45, 2) := by have h := hq; unfold At at h; simp [World.shape?, h]
    have hsb : w.shape? g = some (45, c * 2) := by have h := hA; unfold At at h; simp [World.shape?, h, hs]
    rw [run_callFunc_extern Tryz.func131 (by kernel_rfl) (by kernel_rfl) (by kernel_rfl) (e := Extern.SlicesOverlaps.overlaps #[35, 35] #[4]) (by kernel_rfl),
      Lib.run_overlaps_apart w 35 4 45 Tryz.underlying35 2 (fun w => by kernel_rfl) ⟨q, 0, none⟩ ⟨g, (i + 1) * 2, none⟩ 1 1 lb cb hne 45 45 2 (c * 2) hsa hsb (by omega) (hq.froz 0) (hq.froz 2)]
    rfl
  have hrow : cur.toList.length = c * 2 := by rw [Array.length_toList]; exact hs
  have hRt : cur.toList.take (i * 2) = rgv (l.take i) := by rw [rgv_take, ← ht, List.take_take, Nat.min_eq_left (by omega)]
  obtain ⟨C2, hC2⟩ : ∃ C : List Value, C = cur.toList.take ((i + 1) * 2) ++ rgv (l.drop i) ++ cur.toList.drop ((n + 1) * 2) := ⟨_, rfl⟩
  have hC2l : C2.length = c * 2 := by rw [hC2, put_len cur.toList (rgv (l.drop i)) ((i + 1) * 2) ((n + 1) * 2) (by rw [hdl]; omega) (by omega), hrow]
  have hcpA : ∀ ty dc sc, (Builtin.copy_ #[35, 35] ty #[.slice (some ⟨g, (i + 1) * 2, none⟩) (n - i) dc, .slice (some ⟨g, i * 2, none⟩) (n + 1 - i) sc]).run Tryz.prog w.drew = .ok (goInt ((n - i : Nat) : Int)) (w.drew.setRow g C2.toArray) := fun ty dc sc => by
    have := run_copy_min w.drew 35 35 ty 45 2 g ((i + 1) * 2) (n - i) (n + 1 - i) (n - i) dc (by simp only [Nat.min_def]; split <;> omega) ⟨g, i * 2, none⟩ sc cur 45 (rgv (l.drop i)) Tryz.underlying35 infoRgS hA hdl
      (fun j v hj => by rw [Go.WideShapes.add_plain]; exact rows_at (w := w.drew) (n := n) (cap := n) (hA.hp rfl) ht (i * 2) j v (by rw [rgv_drop] at hj; exact hj)) (by rw [hdl, hs]; omega) (rgv_one _)
    rw [hdl, show (i + 1) * 2 + (n - i) * 2 = (n + 1) * 2 by omega, ← hC2] at this
    exact this
  obtain ⟨W2, hW2⟩ : ∃ W, w.drew.setRow g C2.toArray = W := ⟨_, rfl⟩
  have A2 : At W2 g 45 C2.toArray := by rw [← hW2]; exact setRow_heap w.drew g _ _ _ (0, 0) hA
  have F2 : Fr [g] w W2 := by rw [← hW2]; exact (Fr.refl [g] w).drew.trans (Fr.setRow w.drew _ _) (fun k hk => .inl hk)
  rw [hW2] at hcpA
  obtain ⟨C3, hC3⟩ : ∃ C : List Value, C = C2.take (i * 2) ++ [.int .u32 (r.1 : Int), .int .u32 (r.2 : Int)] ++ C2.drop (i * 2 + 2) := ⟨_, rfl⟩
  have hC3l : C3.length = c * 2 := by rw [hC3, put_len C2 [.int .u32 (r.1 : Int), .int .u32 (r.2 : Int)] (i * 2) (i * 2 + 2) rfl (by omega), hC2l]
  have hcl1 : (cur.toList.take ((i + 1) * 2)).length = (i + 1) * 2 := by rw [List.length_take]; omega
  have hC2a : C2.take (i * 2) = rgv (l.take i) := by
    rw [hC2, List.append_assoc, List.take_append_of_le_length (by omega), List.take_take, Nat.min_eq_left (by omega), hRt]
  have hC2b : (C2.drop (i * 2 + 2)).take ((n - i) * 2) = rgv (l.drop i) := by
    rw [hC2, List.append_assoc, show i * 2 + 2 = (i + 1) * 2 by omega, List.drop_append_of_le_length (by omega), List.drop_of_length_le (by omega), List.nil_append, List.take_append_of_le_length (by omega), List.take_of_length_le (by omega)]
  have hC3t : C3.take ((n + 1) * 2) = rgv (insL l i r) := by
    rw [hC3, hC2a, show (n + 1) * 2 = (rgv (l.take i) ++ [Value.int .u32 (r.1 : Int), Value.int .u32 (r.2 : Int)]).length + (n - i) * 2 by rw [List.length_append, htk]; simp; omega, List.take_length_add_append, hC2b]
    unfold insL
    rw [rgv_append, rgv_cons, List.append_assoc]
  have hcpB : ∀ ty dc, (Builtin.copy_ #[35, 35] ty #[.slice (some ⟨g, i * 2, none⟩) (n + 1 - i) dc, .slice (some ⟨q, 0, none⟩) 1 1]).run Tryz.prog W2 = .ok (goInt 1) (W2.setRow g C3.toArray) := fun ty dc => by
    rw [hC3]
    exact run_copy_min W2 _ _ ty 45 2 g (i * 2) (n + 1 - i) 1 1 dc (by simp only [Nat.min_def]; split <;> omega) ⟨q, 0, none⟩ 1 C2.toArray 45 [.int .u32 (r.1 : Int), .int .u32 (r.2 : Int)] Tryz.underlying35 infoRgS A2 rfl
      (fun j v hj => by rw [Go.WideShapes.add_plain, Nat.zero_add, (HQ.out.fr F2 (by simpa using hne)).cell, List.getElem?_toArray]; exact hj) (by rw [List.size_toArray, hC2l]; simp; omega) hone
  obtain ⟨W3, hW3⟩ : ∃ W, W2.setRow g C3.toArray = W := ⟨_, rfl⟩
  have A3 := Lib.hid (show At W3 g 45 C3.toArray by rw [← hW3]; exact setRow_heap W2 g _ _ _ (0, 0) A2)
  have F3 := Lib.hid (show Fr [g] w W3 from F2.trans (by rw [← hW3]; exact Fr.setRow W2 _ _) (fun k hk => .inl hk))
  rw [hW3] at hcpB
  have HT := Lib.hid hC3t
  have HL3 := Lib.hid hC3l
  have HCA := Lib.hid hcpA
  have HCB := Lib.hid hcpB
  have HOV := Lib.hid hov
  clear hW2 hW3 hC2 hC3 hC3t hC3l hC2a hC2b hC2l hcpA hcpB hov A2 F2 hRt hrow hcl1 htk hdl ht hA hq hcl hone hs
  have hw1 : IntKind.i64.wrap ((i : Int) + 1) = (i : Int) + 1 := by rw [IntKind.wrap_i64]; omega
  have hb1 : (0 : Int) ≤ (i : Int) + 1 := by omega
  have hin' : i ≤ n := by omega
  have htn : ((i : Int) + 1).toNat = i + 1 := by omega
  have hGi : ¬ (c = i) := by omega
  have hGim : ¬ (c = i + 1) := by omega
  have hci' : ¬ ((i : Int) = (n : Int)) := by omega
  have hno : ¬ ((c : Int) < (n : Int) + 1) := by omega
  have hb3 : (i : Int) ≤ (n : Int) + 1 := by omega
  go_enter Tryz.func102, Tryz.ntmps102
  go_upto_region 15 with (simp only [HOV.out])
  refine wp_region_L (fun _ => True) [] (by kernel_rfl) trivial (fun hHeld => ?_)
  refine wpAnyL_take (i := 0) (v := ?_) rfl (by kernel_rfl) (fun _ _ _ h => h) (Or.inl ⟨by rfl, ?_⟩) (by assumption) ?_; rotate_left; (focus (intro w hSw; skip; go_simp; (try with_reducible rfl))); (try (refine wpAnyL_norm (by simp only [Act.put, List.setIfInBounds_toArray, List.set_cons_zero, List.set_cons_succ]; rfl) ?_))
  refine wpAnyL_take (i := 1) (v := ?_) rfl (by kernel_rfl) (fun _ _ _ h => h) (Or.inl ⟨by rfl, ?_⟩) (by assumption) ?_; rotate_left; (focus (intro w hSw; skip; go_simp; (try with_reducible rfl))); (try (refine wpAnyL_norm (by simp only [Act.put, List.setIfInBounds_toArray, List.set_cons_zero, List.set_cons_succ]; rfl) ?_))
  refine wpAnyL_take (i := 2) (v := ?_) rfl (by kernel_rfl) (fun _ _ _ h => h) (Or.inl ⟨by rfl, ?_⟩) (by assumption) ?_; rotate_left; (focus (intro w hSw; skip; go_simp; (try with_reducible rfl))); (try (refine wpAnyL_norm (by simp only [Act.put, List.setIfInBounds_toArray, List.set_cons_zero, List.set_cons_succ]; rfl) ?_))
  refine wpAnyL_take (i := 3) (v := ?_) rfl (by kernel_rfl) (fun _ _ _ h => h) (Or.inl ⟨by rfl, ?_⟩) (by assumption) ?_; rotate_left; (focus (intro w hSw; skip; go_simp; (try with_reducible rfl))); (try (refine wpAnyL_norm (by simp only [Act.put, List.setIfInBounds_toArray, List.set_cons_zero, List.set_cons_succ]; rfl) ?_))
  refine wpAnyL_take (i := 4) (v := ?_) rfl (by kernel_rfl) (fun _ _ _ h => h) (Or.inl ⟨by rfl, ?_⟩) (by assumption) ?_; rotate_left; (focus (intro w hSw; (have k1 : (0 : Int) ≤ (i : Int) + 1 ∧ (i : Int) + 1 ≤ (n : Int) + 1 := by omega); (have k2 : i + 1 ≤ n + 1 := by omega); go_simp; (try with_reducible rfl))); (try (refine wpAnyL_norm (by simp only [Act.put, List.setIfInBounds_toArray, List.set_cons_zero, List.set_cons_succ]; rfl) ?_))
  refine wpAnyL_take (i := 5) (v := ?_) rfl (by kernel_rfl) (fun _ _ _ h => h) (Or.inl ⟨by rfl, ?_⟩) (by assumption) ?_; rotate_left; (focus (intro w hSw; skip; go_simp; (try with_reducible rfl))); (try (refine wpAnyL_norm (by simp only [Act.put, List.setIfInBounds_toArray, List.set_cons_zero, List.set_cons_succ]; rfl) ?_))
  refine wpAnyL_take (i := 6) (v := ?_) rfl (by kernel_rfl) (fun _ _ _ h => h) (Or.inl ⟨by rfl, ?_⟩) (by assumption) ?_; rotate_left; (focus (intro w hSw; skip; go_simp; (try with_reducible rfl))); (try (refine wpAnyL_norm (by simp only [Act.put, List.setIfInBounds_toArray, List.set_cons_zero, List.set_cons_succ]; rfl) ?_))
  refine wpAnyL_take (i := 7) (v := ?_) rfl (by kernel_rfl) (fun _ _ _ h => h) (Or.inl ⟨by rfl, ?_⟩) (by assumption) ?_; rotate_left; (focus (intro w hSw; skip; go_simp; (try with_reducible rfl))); (try (refine wpAnyL_norm (by simp only [Act.put, List.setIfInBounds_toArray, List.set_cons_zero, List.set_cons_succ]; rfl) ?_))
  refine wpAnyL_ready (rs := [8]) (by kernel_rfl) (by simp) ?_; refine AllReadyL.cons rfl (fun K hK => ?_) AllReadyL.nil
  rw [if_pos (by rfl)]
  refine wp_copy_run (.tmp 73) (.tmp 76) 35 35 rfl (.slice (some ⟨g, (i + 1) * 2, none⟩) (n - i) (c - (i + 1))) (.slice (some ⟨g, i * 2, none⟩) (n + 1 - i) (c - i)) (by simp [Act.eval]; done) (by simp [Act.eval]; done) (HCA.out 3 (c - (i + 1)) (c - i)) ?_
  refine hK.out _ _ (fun _ => trivial) (fun hHeld' => ?_); have hHeld := hHeld' (by decide); clear hHeld' hK K; (try (refine wpAnyL_norm (by simp only [Act.put, List.setIfInBounds_toArray, List.set_cons_zero, List.set_cons_succ]; rfl) ?_))
  refine wpAnyL_done (by kernel_rfl) ?_ _
  go_upto_region 17 with (refine wpList_copy_at rfl (.tmp 80) (.tmp 81) 35 35 rfl (.slice (some ⟨g, i * 2, none⟩) (n + 1 - i) (c - i)) (.slice (some ⟨q, 0, none⟩) 1 1) rfl rfl (HCB.out 3 (c - i)) ?_)
  go_wp2_with fail
  go_ret
  exact ⟨_, rfl, ⟨by rw [rgv_len, insL_len _ _ _ (by omega)]; omega, .inr ⟨g, c, C3.toArray, rfl, Nat.zero_le _, A3.out, hc, by unfold maxLen; omega, by rw [List.size_toArray]; exact HL3.out, HT.out⟩⟩, F3.out, rfl⟩
theorem insert_any (v : Value) (hv : w.ownsRow 0 45 2 v l.length (rgv l)) (i : Nat) (hi : i ≤ l.length) (hne : ∀ g, v.ownBlock = some g → g ≠ q) :
    Calls Tryz.prog 102 #[v, .int .i64 i, .slice (some ⟨q, 0, none⟩) 1 1] w fun e w' => ∃ v', e = .returned v' ∧ w'.ownsRow 0 45 2 v' (l.length + 1) (rgv (insL l i r)) ∧ Fr v.ownBlock.toList w w' ∧ ∀ g, v'.ownBlock = some g → v.ownBlock = some g ∨ w.heap.size ≤ g := by
  by_cases he : i = l.length
  · subst he
    exact insert_end w l r q hq hl v hv
  · rcases rows_open hv with ⟨rfl, h0⟩ | ⟨g, c, cur, rfl, -, hA, h1, h2, h3, h4⟩
    · omega
    · by_cases hc : c = l.length
      · subst hc
        refine (insert_grow w l r q hq hl g i cur hA h4 (by omega)).mono ?_
        rintro e w' ⟨v', e1, e2, e3, e4⟩
        exact ⟨v', e1, e2, e3.more (by simp), fun g hg => .inr (e4 g hg)⟩
      · refine (insert_shift w l r q hq hl g i c cur hA h4 h3 (by omega) (by omega) h2 (fun h => hne g rfl h.symm)).mono ?_
        rintro e w' ⟨v', e1, e2, e3, e4⟩
        exact ⟨v', e1, e2, e3, fun g' hg => .inl (by rw [e4] at hg; exact hg)⟩
end
end Go.Proofs.YthjbnbimfpbccaaGreatDoor
