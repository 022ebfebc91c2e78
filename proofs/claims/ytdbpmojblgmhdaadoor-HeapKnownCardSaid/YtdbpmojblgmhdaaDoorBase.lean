/-
  Small words that all my texts share: a block that is known whole (At), a frame that says which old blocks may have turned (Fr), how a quiet contract is handed to a region that draws, the ends of rows. No condition.
-/
import Derived.Test.YtdbpmojblgmhdaaDoorRows
import Derived.WalkKit
import Derived.ProofKit
import Derived.OpenShut
import Derived.Outline
import Derived.LoopTactic
import Derived.BigQuiet
import Derived.Handy
import Derived.Lib.Hide
import Derived.Below
import Derived.Deep.QuietTactic
import Derived.Deep.Draws
import Derived.Deep.OwnRows
import Derived.Deep.RegionWith
import Derived.Deep.LoopGhost
import Derived.Deep.Cut
import Derived.Laws.Rows
import Derived.Laws.AppendOwn
import Derived.Laws.OwnMore
import Derived.Laws.BitsAll
import Derived.ChangeSame
import Derived.Deep.Slices
import Derived.Deep.Fields
namespace Go.Proofs.YtdbpmojblgmhdaaDoor
open Go.ChangeShapes Go.WideShapes Go.ChangeAt Go.RowKit

/-! ### blocks known whole -/
def At (w : World) (g : Nat) (t : TypeId) (cs : Array Value) : Prop := w.heap[g]? = some (.cells cs t (0, 0))

structure Fr (S : List Nat) (w w' : World) : Prop where
  os : w'.os = w.os
  tape : w'.tape = w.tape
  output : w'.output = w.output
  size : w.heap.size ≤ w'.heap.size
  keep : ∀ k, k < w.heap.size → k ∉ S → w'.heap[k]? = w.heap[k]?

section
variable {w w' w'' : World} {g : Nat} {t : TypeId} {cs : Array Value} {S T : List Nat}
theorem At.lt (h : At w g t cs) : g < w.heap.size := by
  rcases Nat.lt_or_ge g w.heap.size with hlt | hge
  · exact hlt
  · unfold At at h; rw [Array.getElem?_eq_none hge] at h; cases h
theorem At.cell (h : At w g t cs) (i : Nat) : w.cell? ⟨g, i, none⟩ = cs[i]? := by unfold At at h; simp [World.cell?, h]
theorem At.froz (h : At w g t cs) (i : Nat) : w.frozen? ⟨g, i, none⟩ = false := by unfold At at h; simp [World.frozen?, h]
theorem At.fr (h : At w g t cs) (f : Fr S w w') (hg : g ∉ S) : At w' g t cs := (f.keep g h.lt hg).trans h
theorem At.frh {v : World} (h : At w g t cs) (f : Fr S v w') (hv : v.heap = w.heap) (hg : g ∉ S) : At w' g t cs := At.fr (w := v) (by unfold At; rw [hv]; exact h) f hg
theorem At.hp (h : At w g t cs) (hv : w'.heap = w.heap) : At w' g t cs := by unfold At at *; rw [hv]; exact h
theorem At.new (w : World) (t : TypeId) (cs : Array Value) : At (w.alloc (.cells cs t)) w.heap.size t cs := heap_alloc_new w _
theorem At.set (h : At w g t cs) (i : Nat) (u : Value) : At (w.setCell ⟨g, i, none⟩ u) g t (cs.setIfInBounds i u) := by
  unfold At at h ⊢
  simp [World.setCell, Array.getElem?_modify, h]
theorem At.inj {t' : TypeId} {cs' : Array Value} (h : At w g t cs) (h' : At w g t' cs') : t = t' ∧ cs = cs' := by
  unfold At at h h'; rw [h] at h'; injection h' with h'; injection h' with a b; exact ⟨b, a⟩
theorem At.drewN (h : At w g t cs) (n : Nat) : At (w.drewN n) g t cs := h
theorem At.old (h : At w g t cs) (o : Obj) : At (w.alloc o) g t cs := (Below.heap_alloc w o g h.lt).trans h
theorem At.far (h : At w g t cs) {a : Addr} (ha : g ≠ a.block) (u : Value) : At (w.setCell a u) g t cs := (Below.heap_setCell w a u g ha).trans h

theorem Fr.refl (S : List Nat) (w : World) : Fr S w w := ⟨rfl, rfl, rfl, Nat.le_refl _, fun _ _ _ => rfl⟩
theorem Fr.drewN (f : Fr S w w') (n : Nat) : Fr S w (w'.drewN n) := ⟨f.os, f.tape, f.output, f.size, f.keep⟩
theorem Fr.drew (f : Fr S w w') : Fr S w w'.drew := ⟨f.os, f.tape, f.output, f.size, f.keep⟩
theorem Fr.alloc (f : Fr S w w') (o : Obj) : Fr S w (w'.alloc o) :=
  ⟨f.os, f.tape, f.output, Nat.le_trans f.size (by simp), fun k hk hS => (Below.heap_alloc w' o k (Nat.lt_of_lt_of_le hk f.size)).trans (f.keep k hk hS)⟩
theorem Fr.set (f : Fr S w w') {a : Addr} (ha : a.block ∈ S ∨ w.heap.size ≤ a.block) (u : Value) : Fr S w (w'.setCell a u) :=
  ⟨f.os, f.tape, f.output, by simpa using f.size, fun k hk hS => (Below.heap_setCell w' a u k (by
    rintro rfl
    rcases ha with ha | ha
    · exact hS ha
    · omega)).trans (f.keep k hk hS)⟩
theorem Fr.trans (f : Fr S w w') (f' : Fr T w' w'') (hT : ∀ k ∈ T, k ∈ S ∨ w.heap.size ≤ k) : Fr S w w'' :=
  ⟨f'.os.trans f.os, f'.tape.trans f.tape, f'.output.trans f.output, Nat.le_trans f.size f'.size, fun k hk hS =>
    (f'.keep k (Nat.lt_of_lt_of_le hk f.size) (fun hkT => by
      rcases hT k hkT with h | h
      · exact hS h
      · omega)).trans (f.keep k hk hS)⟩
theorem Fr.hd {v : World} (f : Fr S v w') (h1 : v.os = w.os) (h2 : v.tape = w.tape) (h3 : v.output = w.output) (h4 : v.heap = w.heap) : Fr S w w' :=
  ⟨f.os.trans h1, f.tape.trans h2, f.output.trans h3, by rw [← h4]; exact f.size, fun k hk hS => by rw [f.keep k (by rw [h4]; exact hk) hS, h4]⟩
theorem Fr.hd' {v v' : World} (f : Fr S w v) (h1 : v'.os = v.os) (h2 : v'.tape = v.tape) (h3 : v'.output = v.output) (h4 : v'.heap = v.heap) : Fr S w v' :=
  ⟨h1.trans f.os, h2.trans f.tape, h3.trans f.output, by rw [h4]; exact f.size, fun k hk hS => by rw [h4]; exact f.keep k hk hS⟩
theorem Fr.trans0 (f : Fr S w w') (f' : Fr [] w' w'') : Fr S w w'' := f.trans f' (by simp)
theorem Fr.more (f : Fr S w w') (h : ∀ k ∈ S, k ∈ T ∨ w.heap.size ≤ k) : Fr T w w' :=
  ⟨f.os, f.tape, f.output, f.size, fun k hk hT => f.keep k hk (fun hkS => by
    rcases h k hkS with h | h
    · exact hT h
    · omega)⟩
theorem Fr.of_below (h : Below w.heap.size w w') : Fr [] w w' := ⟨h.os, h.tape, h.output, h.size, fun k hk _ => h.block k hk⟩
theorem Fr.below (f : Fr [] w w') : Below w.heap.size w w' := ⟨f.os, f.tape, f.output, f.size, fun k hk => f.keep k hk (by simp)⟩
theorem Fr.cell (f : Fr S w w') {a : Addr} (h : a.block < w.heap.size) (hS : a.block ∉ S) : w'.cell? a = w.cell? a := World.cell?_of_block (f.keep a.block h hS)
theorem Fr.froz (f : Fr S w w') {a : Addr} (h : a.block < w.heap.size) (hS : a.block ∉ S) : w'.frozen? a = w.frozen? a := World.frozen?_of_block (f.keep a.block h hS)
theorem Fr.grown {row : Option Nat} (f : w.grownBy w' row) : Fr row.toList w w' := ⟨f.os, f.tape, f.output, f.size, fun k hk hS => f.block k hk (by rintro rfl; simp at hS)⟩
theorem At.lt' (h : At w g t cs) (f : Fr S w w') : g < w'.heap.size := Nat.lt_of_lt_of_le h.lt f.size
end

/-! ### endings -/
theorem ret_int {k : IntKind} {a b : Int} (h : a = b) : Ending.returned (.int k a) = .returned (.int k b) := by rw [h]
theorem ret_bool {a b : Bool} (h : a = b) : Ending.returned (.bool a) = .returned (.bool b) := by rw [h]
theorem ret_two {k l : IntKind} {a b c d : Int} (h : a = c) (g : b = d) : Ending.returned (.tuple #[.int k a, .int l b]) = .returned (.tuple #[.int k c, .int l d]) := by rw [h, g]
theorem res_tmp4 {fn : Func} {t u v x : Tmp} (h : fn.results = #[.tmp t, .tmp u, .tmp v, .tmp x]) (tmps : Array Value) (P : Program) (w : World) :
    (results fn tmps).run P w = .ok (.tuple #[tmps.getD t undef, tmps.getD u undef, tmps.getD v undef, tmps.getD x undef]) w := by simp [results, h]
theorem res_tmp5 {fn : Func} {t u v x y : Tmp} (h : fn.results = #[.tmp t, .tmp u, .tmp v, .tmp x, .tmp y]) (tmps : Array Value) (P : Program) (w : World) :
    (results fn tmps).run P w = .ok (.tuple #[tmps.getD t undef, tmps.getD u undef, tmps.getD v undef, tmps.getD x undef, tmps.getD y undef]) w := by simp [results, h]

/-! ### quiet contracts -/
section
variable {P : Program} {f : FuncId} {args : Array Value} {w : World} {v : Value}
theorem q_same {n : Nat} (h : Calls P f args (w.drewN n) fun e w' => e = .returned v ∧ w.drewN n = w') : Calls P f args (w.drewN n) fun e w' => e = .returned v ∧ ∃ m, w' = w.drewN m :=
  h.mono fun _ _ ⟨he, hm⟩ => ⟨he, n, hm.symm⟩
theorem q_same_add {a n : Nat} (h : Calls P f args (w.drewN (a + n)) fun e w' => e = .returned v ∧ w.drewN (a + n) = w') : Calls P f args (w.drewN (a + n)) fun e w' => e = .returned v ∧ ∃ m, w' = w.drewN (a + m) :=
  h.mono fun _ _ ⟨he, hm⟩ => ⟨he, n, hm.symm⟩
theorem q_draw {n : Nat} (h : Calls P f args (w.drewN n) fun e w' => e = .returned v ∧ ∃ m, w' = (w.drewN n).drewN m) : Calls P f args (w.drewN n) fun e w' => e = .returned v ∧ ∃ m, w' = w.drewN m :=
  h.mono fun _ _ ⟨he, m, hm⟩ => ⟨he, n + m, by rw [hm, World.drewN_drewN]⟩
theorem q_draw_add {a n : Nat} (h : Calls P f args (w.drewN (a + n)) fun e w' => e = .returned v ∧ ∃ m, w' = (w.drewN (a + n)).drewN m) : Calls P f args (w.drewN (a + n)) fun e w' => e = .returned v ∧ ∃ m, w' = w.drewN (a + m) :=
  h.mono fun _ _ ⟨he, m, hm⟩ => ⟨he, n + m, by rw [hm, World.drewN_drewN, Nat.add_assoc]⟩
end

/-! ### the end of a row: the world has turned in new blocks alone -/
section
variable {H : Type} {enc : TypeId × Value → H} {P : Program}
theorem post_fr {f : Func} {s : ChangeSpec} {apart fresh handsOn again : Bool} {W W' : World} {args : Array Value} {v : Value} {ds gs : List (DataW H)} {before pa pv : List MemPlace}
    (hW : DataW.Whole enc P f.params.toList s.vars apart W args.toList ds gs before)
    (hres : ∀ (b : Nat) (sp : Nat → Bool) (hd : Bool), DataW.TrodAll enc P W' b sp hd f.resultTypes.toList (v.resultList f.resultTypes.size) (s.fn H (ds ++ gs)).results [])
    (hargs : ∀ sp : Nat → Bool, (∀ p ∈ before, sp p.block = true) → DataW.TrodAll enc P W' 0 sp true f.params.toList args.toList (s.fn H (ds ++ gs)).args pa)
    (hvars : ∀ sp : Nat → Bool, (∀ p ∈ before, sp p.block = true) → DataW.TrodVars enc P W' sp s.vars (s.fn H (ds ++ gs)).vars pv)
    (hps : before = pa ++ pv) (hb : Fr [] W W')
    (hok : ∀ (j : Nat) (t : TypeId) (r : Value), f.resultTypes[j]? = some t → (v.resultList f.resultTypes.size)[j]? = some r → Value.okWide P W' .any 0 t r) :
    s.post enc P f apart fresh handsOn again W args v W' := by
  have hlt : ∀ p ∈ before, p.block < W.heap.size := fun p hp => hW.lt p hp
  have hold : ∀ p ∈ before, (fun b => decide (b < W.heap.size)) p.block = true := fun p hp => by simpa using hlt p hp
  refine ⟨ds, gs, before, [], pa, pv, hW, hres _ _ _, hargs _ hold, hvars _ hold, World.keptBut_mono (fun p hp => ⟨hp, ?_⟩) (hb.below.frame (· ∈ before)), fun _ => ?_⟩
  · rw [hps, List.mem_append] at hp
    exact Or.inr hp
  · obtain ⟨_, _, _, _, _, hz, hn⟩ := hW
    refine ⟨hok, _, _, ([] ++ pa) ++ pv, ⟨[] ++ pa, pv, trodAll_append (hargs _ (fun _ _ => rfl)) (hres _ _ _), hvars _ (fun _ _ => rfl), rfl, ?_, ?_⟩, ?_⟩
    · intro b off hp
      have hin : MemPlace.cell b off ∈ before := by rw [hps]; simpa using hp
      rw [hb.below.frozen (hlt _ hin)]
      exact hz b off hin
    · intro ha
      have := hn ha
      rw [hps] at this
      simpa using this
    · intro p hp _
      rw [hps]
      simpa using hp
end

/-! ### a slice of integers that came in -/
/-- The slice's first len numbers are zs, and each lies in a cell; base a where there is one. -/
def Ints (k : IntKind) (w : World) (a : Option Addr) (len : Nat) (zs : List Int) : Prop :=
  len ≤ 9223372036854775807 ∧ zs.length = len ∧ (∀ z ∈ zs, (Lit.int k z).wf = true) ∧
  (len = 0 ∨ ∃ b off, a = some ⟨b, off, none⟩ ∧ b < w.heap.size ∧ ∀ i, i < len → w.cell? ⟨b, off + i, none⟩ = some (.int k (zs.getD i 0)))
theorem Ints.nil {k : IntKind} {w : World} (a : Option Addr) : Ints k w a 0 [] := ⟨by omega, rfl, by simp, .inl rfl⟩
theorem lt_of_cell {w : World} {a : Addr} {v : Value} (h : w.cell? a = some v) : a.block < w.heap.size := by
  rcases Nat.lt_or_ge a.block w.heap.size with hlt | hge
  · exact hlt
  · simp [World.cell?, Array.getElem?_eq_none hge] at h
theorem Ints.of {k : IntKind} {w : World} {x : Addr} {len cap : Nat} {zs : List Int} (hl : len ≤ cap) (hm : cap ≤ maxLen) (hz : zs.length = cap)
    (hcell : ∀ i, i < zs.length → w.cell? (x.add i) = some (.int k (zs.getD i 0))) (hw : ∀ z ∈ zs, (Lit.int k z).wf = true) : Ints k w (some x) len (zs.take len) := by
  unfold maxLen at hm
  refine ⟨by omega, by simp; omega, fun z h => hw z (List.mem_of_mem_take h), ?_⟩
  by_cases h0 : len = 0
  · exact .inl h0
  · refine .inr ?_
    have hne : 0 < zs.length := by omega
    obtain ⟨b, off, rfl, hc⟩ := ints_at hcell hne
    refine ⟨b, off, rfl, lt_of_cell (hc 0 hne), fun i hi => ?_⟩
    rw [hc i (by omega)]
    simp [List.getD_eq_getElem?_getD, hi]
/-! ### an array of two integers that came in by value -/
section
variable {H : Type} {enc : TypeId × Value → H} {P : Program} {k e : TypeId} {q : IntKind} {W : World} {base : Nat} {sp : Nat → Bool} {held : Bool}
theorem open_arr2 (hu : P.underlying k = some (.array 2 e)) (he : P.underlying e = some (.int q)) (h1 : P.cellsOf e = 1) (h2 : P.cellsOf k = 2) {r : Reach} {b0 : Nat} {v : Value} {d : DataW H} {ps : List MemPlace}
    (hv : Value.okWide P W r b0 k v) (h : DataW.Trod enc P W base sp held k v d ps) : ∃ x y : Int, v = .agg #[.int q x, .int q y] ∧ (Lit.int q x).wf = true ∧ (Lit.int q y).wf = true := by
  simp only [Value.okWide, hu] at hv
  obtain ⟨cs, rfl, hsz, _⟩ := hv
  rw [h2] at hsz
  obtain ⟨l⟩ := cs
  match l, hsz with
  | [c0, c1], _ =>
    obtain ⟨fuel, hf⟩ := h
    cases fuel with
    | zero => simp [DataW.trod] at hf
    | succ m =>
      rw [DataW.trod_step] at hf
      unfold DataW.trodStep at hf
      simp only [hu, Value.cells] at hf
      rw [if_pos (by simp [h2])] at hf
      simp only [Option.map_eq_some_iff] at hf
      obtain ⟨ys, hy, _⟩ := hf
      rw [show List.range 2 = [0, 1] from rfl] at hy
      simp only [List.mapM_cons, List.mapM_nil, h1, bind, Option.bind_eq_some_iff, pure] at hy
      obtain ⟨y0, hy0, ys', ⟨y1, hy1, _⟩, _⟩ := hy
      obtain ⟨x, ex, _, wx⟩ := DataW.trod_int he hy0
      obtain ⟨y, ey, _, wy⟩ := DataW.trod_int he hy1
      simp at ex ey
      exact ⟨x, y, by rw [ex, ey], wx, wy⟩
end
/-! ### a slice of records that came in, each field of one cell -/
def QI (k : IntKind) (v : Value) : Prop := ∃ z : Int, v = .int k z ∧ (Lit.int k z).wf = true
def QB (v : Value) : Prop := ∃ b : Bool, v = .bool b
def Recs (w : World) (a : Option Addr) (len nf : Nat) (Q : Nat → Value → Prop) : Prop :=
  len ≤ 9223372036854775807 ∧ (len = 0 ∨ ∃ b off, a = some ⟨b, off, none⟩ ∧ b < w.heap.size ∧ ∀ i, i < len → ∀ j, j < nf → ∃ v, w.cell? ⟨b, off + (i * nf + j), none⟩ = some v ∧ Q j v)
section
variable {H : Type} {enc : TypeId × Value → H} {P : Program} {w : World} {base : Nat} {spare : Nat → Bool} {held : Bool}
theorem open_recs {t e : TypeId} {fs : Array Field} {fuel : Nat} {a : Option Addr} {len cap : Nat} {x : DataW H × List MemPlace} (Q : Nat → Value → Prop) (ht : P.underlying t = some (.slice e)) (he : P.underlying e = some (.struct fs))
    (hone : Deep.oneCellFields P fs = true) (hC : P.cellsOf e = fs.size) (hpos : 0 < fs.size) (h : DataW.trod enc P w base spare held fuel t [.slice a len cap] = some x)
    (hQ : ∀ (j : Nat) (f : Field) (v : Value) (y : DataW H × List MemPlace) (n : Nat), fs[j]? = some f → DataW.trod enc P w base spare held n f.type [v] = some y → Q j v) : Recs w a len fs.size Q := by
  rcases Deep.open_slice ht h with ⟨h0, _⟩ | ⟨ad, l, c, m, n, D, Pl, hcs, hb, hl, hm, hmm, hx, hi⟩
  · simp at h0
    obtain ⟨_, rfl, _⟩ := h0
    exact ⟨by omega, .inl rfl⟩
  · simp at hcs
    obtain ⟨rfl, rfl, rfl⟩ := hcs
    unfold maxLen at hm
    refine ⟨by omega, ?_⟩
    by_cases hz : len = 0
    · exact .inl hz
    · refine .inr ?_
      have hlm : len ≤ m := by rw [hmm]; split <;> omega
      have key : ∀ i, i < len → ∀ j, j < fs.size → ∃ v, w.cell? (ad.add (i * fs.size + j)) = some v ∧ Q j v := by
        intro i hil j hj
        obtain ⟨cs', hc, ht'⟩ := hi i (by omega)
        rw [hC] at hc
        obtain ⟨ys, n', hn', hy, hlen, hyl, hf⟩ := DataW.trod_struct he ht'
        obtain ⟨_, hcl, hat⟩ := World.cells?_some hc
        have hfj : fs[j]? = some fs[j] := Array.getElem?_eq_getElem hj
        obtain ⟨ho, hk⟩ := Deep.hone_of hone j _ hfj
        have hcell := hat j hj
        have h1 := hf j _ hfj
        rw [ho, hk] at h1
        have hone' : (cs'.drop j).take 1 = [cs'[j]'(by omega)] := by
          rw [List.drop_eq_getElem_cons (by omega)]
          rfl
        rw [hone'] at h1
        have hys : ys[j]? = some (ys[j]'(by omega)) := List.getElem?_eq_getElem (by omega)
        refine ⟨cs'[j]'(by omega), ?_, hQ j _ _ _ _ hfj (h1.trans hys)⟩
        rw [← Deep.add_add, hcell, List.getElem?_eq_getElem (by omega)]
      obtain ⟨v0, hv0, _⟩ := key 0 (by omega) 0 hpos
      obtain ⟨b, off, spot⟩ := ad
      have hspot : spot = none := by
        have := World.cell?_spot hv0
        simpa [Addr.add] using this
      subst hspot
      refine ⟨b, off, rfl, by have := lt_of_cell hv0; rw [Go.WideShapes.add_plain] at this; exact this, fun i hil j hj => ?_⟩
      obtain ⟨v, hv, hq⟩ := key i hil j hj
      rw [Go.WideShapes.add_plain] at hv
      exact ⟨v, hv, hq⟩
end
theorem own : ownKnob Tryd.prog.godebug = none := by kernel_rfl
end Go.Proofs.YtdbpmojblgmhdaaDoor
