/-
  Small words for a range over a function: what a caller's invariant abides (blocks of cells that are known whole; the frame), what a body has to keep. No condition.
-/

import Derived.Test.YtdbpmojblgmhdaaDoorBase
import Derived.RangeFuncNested
import Derived.RangeFuncBound
import Derived.RangeFuncCalls
import Derived.RangeFuncLeaves
import Derived.Shelf.Abstract
import Derived.Shelf.RegionOpen
import Derived.OwnWalkIn
import Derived.TacticsInMore
import Derived.LoopNIn
import Derived.LoopIn
import Derived.StillTailTactics
set_option linter.unusedVariables false
namespace Go.Proofs.YtdbpmojblgmhdaaDoor
open Go.ChangeShapes Go.WideShapes Go.ChangeAt Go.RowKit
/-- Whatever block of cells is known whole abides. -/
def AtK (W W' : World) : Prop := ∀ q t cs, At W q t cs → At W' q t cs
theorem atK_grown {W W' : World} {row : Option Nat} (hg : W.grownBy W' row) (hr : ∀ r, row = some r → ∃ o : Obj, W.heap[r]? = some o ∧ o.isCells = false) : AtK W W' := fun _ _ _ h => by
  unfold At at *
  rw [grownBy_keeps_cells hg hr h rfl]; exact h
/-- One block of cells abides: what an iterator asks that reads that block between two rounds. -/
def KpAt (q : Nat) (W W' : World) : Prop := ∀ t cs, At W q t cs → At W' q t cs
theorem kpAt_t {q : Nat} {A B C : World} (h : KpAt q A B) (k : KpAt q B C) : KpAt q A C := fun t cs x => k t cs (h t cs x)
theorem kpAt_b {q : Nat} {w : World} (W : World) (l : Nat) (o o' : Obj) (_ : w.heap.size ≤ l) (h : W.heap[l]? = some o) (hc : o.isCells = false) (_ : o.isWalk = false) : KpAt q W (W.putObj l o') := fun t cs x => by
  have hne : q ≠ l := by
    intro e
    subst e
    unfold At at x
    rw [h] at x
    injection x with x
    subst x
    cases hc
  unfold At at *
  rw [World.putObj_heap_other hne]; exact x
theorem kpAt_fr {q : Nat} {S : List Nat} {W W' : World} (f : Fr S W W') (h : q ∉ S) : KpAt q W W' := fun _ _ x => x.fr f h
/-- Some blocks of cells abide. -/
def KpB (bs : List Nat) (W W' : World) : Prop := ∀ b ∈ bs, ∀ cs t r, W.heap[b]? = some (.cells cs t r) → W'.heap[b]? = some (.cells cs t r)
theorem kpB_t {bs : List Nat} {A B C : World} (h : KpB bs A B) (k : KpB bs B C) : KpB bs A C := fun b hb cs t r x => k b hb cs t r (h b hb cs t r x)
theorem kpB_b {bs : List Nat} {w : World} (W : World) (l : Nat) (o o' : Obj) (_ : w.heap.size ≤ l) (h : W.heap[l]? = some o) (hc : o.isCells = false) (_ : o.isWalk = false) : KpB bs W (W.putObj l o') := fun b _ cs t r x => by
  have hne : b ≠ l := by
    rintro rfl
    rw [h] at x
    injection x with x
    subst x
    cases hc
  rw [World.putObj_heap_other hne]; exact x
theorem kpB_fr {bs S : List Nat} {W W' : World} (f : Fr S W W') (h : ∀ b ∈ bs, b ∉ S) : KpB bs W W' := fun b hb _ _ _ x => (f.keep b (Array.getElem?_eq_some_iff.1 x).1 (h b hb)).trans x
theorem KpB.at_ {bs : List Nat} {W W' : World} (h : KpB bs W W') {q : Nat} {t : TypeId} {cs : Array Value} (hq : q ∈ bs) (ha : At W q t cs) : At W' q t cs := h q hq _ _ _ ha
/-- A frame abides the turn of a block that lies beyond. -/
theorem Fr.row {S : List Nat} {w W W' : World} {row : Option Nat} (f : Fr S w W) (hg : W.grownBy W' row) {B : Nat} (hB : w.heap.size ≤ B) (hr : ∀ r, row = some r → B ≤ r ∧ ∃ o : Obj, W.heap[r]? = some o ∧ o.isCells = false) : Fr S w W' :=
  f.trans (Fr.grown hg) (fun k hk => by
    cases row with
    | none => simp at hk
    | some r => simp at hk; subst hk; exact .inr (Nat.le_trans hB (hr _ rfl).1))
theorem Fr.keepsFrom {S : List Nat} {W W' : World} (f : Fr S W W') (hS : ∀ k ∈ S, ∃ t cs, At W k t cs) : KeepsOthers W W' :=
  ⟨f.size, fun k o hk hc => by
    rw [f.keep k (Array.getElem?_eq_some_iff.1 hk).1 (fun hkS => by
      obtain ⟨t, cs, h⟩ := hS k hkS
      unfold At at h
      rw [hk] at h
      injection h with h
      subst h
      cases hc)]
    exact hk⟩
theorem Fr.putObj {S : List Nat} {w W : World} (f : Fr S w W) (l : Nat) (o : Obj) (hl : w.heap.size ≤ l) : Fr S w (W.putObj l o) :=
  f.trans (Fr.grown (grownBy_putObj' W l o)) (fun k hk => by simp at hk; subst hk; exact .inr hl)
theorem At.putObj {W : World} {q : Nat} {t : TypeId} {cs : Array Value} {l : Nat} (o : Obj) (h : At W q t cs) (hl : q ≠ l) : At (W.putObj l o) q t cs := by
  unfold At at *
  rw [World.putObj_heap_other hl]; exact h
theorem At.ne {V : World} {q D : Nat} {t : TypeId} {cs : Array Value} {o : Obj} (h : At V q t cs) (hK : V.heap[D]? = some o) (ho : o.isCells = false) : q ≠ D := by
  rintro rfl
  unfold At at h
  rw [hK] at h
  injection h with h
  subst h
  cases ho
theorem atK_put {V : World} {D : Nat} {o : Obj} (o' : Obj) (hK : V.heap[D]? = some o) (ho : o.isCells = false) : AtK V (V.putObj D o') := fun _ _ _ h => h.putObj _ (h.ne hK ho)
theorem atK_fr {V V' : World} (f : Fr [] V V') : AtK V V' := fun _ _ _ h => h.fr f (by simp)
/-! ### a region that draws its order, in a round -/
def noDefer (ops : Array Oper) : Bool := ops.all fun o => match o.op with | .defer _ => false | _ => true
theorem noDefer_spec {ops : Array Oper} (h : noDefer ops = true) {i : Nat} {o : Oper} (ho : ops[i]? = some o) (c : Call) : o.op ≠ .defer c := fun e => by
  unfold noDefer at h
  rw [Array.all_eq_true] at h
  obtain ⟨hi, he⟩ := Array.getElem?_eq_some_iff.1 ho
  have := h i hi
  rw [he, e] at this
  cases this
theorem oper_round {r n : Nat} {P : Program} {o : Oper} {a : Act} {w : World} {K K' : Act → World → Prop} {Q : Exit → Act → World → Prop} (hd : ∀ c, o.op ≠ .defer c) (hQ : ¬ LetsOut Q) (hK : ∀ a w, K a w → K' a w)
    (h : o.wp P a w K Q) : o.wpIn (Fence.wide.inRound r) n P a w K' Q := by
  unfold Oper.wp at h
  refine ⟨fun _ _ => trivial, ?_⟩
  rw [Oper.semAt_eq _ _ _ hd]
  generalize (execOp a.eval o).run P w = res at *
  cases res with
  | ok x w' =>
    cases x with
    | value v => exact hK _ _ h
    | skip => exact hK _ _ h
    | defer d => exact hK _ _ h
    | enter f args =>
      refine ⟨fun q => (by cases q), CallsIn.inRound r ((callsIn_wide (n := n - 1)).2 (Calls.mono h ?_))⟩
      intro e w'' he
      cases e with
      | returned v => exact hK _ _ he
      | panicked ch => exact he
      | outgrown => exact (hQ he).elim
    | row row args => exact ⟨fun q => (by cases q), fun c cs _ => let ⟨v, w2, h1, h2⟩ := h c cs; ⟨v, w2, hK _ _ h1, stepsIn_wide.2 h2⟩⟩
    | _ => exact h.elim
  | halt x w' =>
    cases x with
    | panic v => exact h
    | _ => exact h.elim
theorem wpAnyIn_of_wpAny {r n : Nat} {P : Program} {md : Region.Mode} {ops : Array Oper} {Q : Exit → Act → World → Prop} (hd : noDefer ops = true) (hQ : ¬ LetsOut Q) :
    ∀ (fuel : Nat) (listed : Array Bool) (a : Act) (w : World), wpAny P md ops Q fuel listed a w → wpAnyIn (Fence.wide.inRound r) n P md ops Q fuel listed a w
  | 0, _, _, _, h => h
  | fuel + 1, listed, a, w, h => ⟨h.1, fun i hi => by
      have h2 := h.2 i hi
      unfold wpOp at h2
      unfold wpOpIn
      split
      · rename_i ho
        simp only [ho] at h2
        exact wpAnyIn_of_wpAny hd hQ fuel _ _ _ h2
      · rename_i o ho
        simp only [ho] at h2
        split
        · rename_i hw
          rw [if_pos hw] at h2
          rcases h2 with h2 | h2
          · exact oper_round (noDefer_spec hd ho) hQ (fun a w => wpAnyIn_of_wpAny hd hQ fuel _ a w) h2
          · exact (hQ h2.2).elim
        · rename_i hw
          rw [if_neg hw] at h2
          exact ⟨fun _ _ => trivial, wpAnyIn_of_wpAny hd hQ fuel _ _ _ h2⟩⟩
/-- In a round: a region that draws its order, all of whose operations read or call quietly. -/
theorem wpIn_round_quiet {r n id : Nat} {P : Program} {Q : Exit → Act → World → Prop} {a : Act} {w : World} {l : List Oper} (hQ : ¬ LetsOut Q) (hm : P.follows .mixedOrders = true) (hd : noDefer l.toArray = true) (hB : Region.lexB .any l.toArray = true)
    (h : wpQuiet P l.toArray (fun w' => ∃ n, w' = w.drewN n) (fun a' => ∀ w', (∃ n, w' = w.drewN n) → Q .normal a' w') l a) : (Code.region id l.toArray true).wpIn (Fence.wide.inRound r) n P Q a w := by
  simp only [Region.lexB, Bool.and_eq_true] at hB
  refine wpIn_region_any hm (wpAnyIn_of_wpAny hd hQ _ _ _ _ (wpAny_of_quiet (C := fun w' => ∃ n, w' = w.drewN n) (Q := fun a' => ∀ w', (∃ n, w' = w.drewN n) → Q .normal a' w') (fun _ w' hw' h => h w' hw') _ _ _ _ ⟨1, rfl⟩ ?_))
  have := wpAnyQ_lex (C := fun w' => ∃ n, w' = w.drewN n) (md := .any) hB.1 l 0 (Array.replicate l.toArray.size false) a (by simp) (by simpa using hB.2) h
  simpa using this
/-- In a round: a region that draws its order, of which the first m operations only read, the others stand in one forced order behind them. -/
theorem wpIn_round_still {r n id : Nat} {P : Program} {Q : Exit → Act → World → Prop} {a : Act} {w : World} {l : List Oper} (m : Nat) (hQ : ¬ LetsOut Q) (hm : P.follows .mixedOrders = true) (hd : noDefer l.toArray = true) (hB : Region.lexTailB .any l.toArray m = true)
    (h : wpStill P l.toArray { w with drawn := w.drawn + 1 } (fun a' => wpList P l.toArray Q (l.drop m) a' { w with drawn := w.drawn + 1 }) (l.take m) a) : (Code.region id l.toArray true).wpIn (Fence.wide.inRound r) n P Q a w := by
  simp only [Region.lexTailB, Bool.and_eq_true, decide_eq_true_eq] at hB
  obtain ⟨⟨⟨⟨hsel, hn⟩, hs⟩, hc⟩, hlex⟩ := hB
  have hn' : m < l.length := by simpa using hn
  have htl : (l.take m).length = m := by simp; omega
  have hdl : (l.drop m).length = l.toArray.size - m := by simp
  have inv0 : HeadInv .any l.toArray m (Array.replicate l.toArray.size false) :=
    ⟨by simp, fun j oj _ hl => (by rw [getD_replicate_false] at hl; cases hl), fun t _ ht => getD_in (by simpa using ht) (getD_replicate_false _ _)⟩
  have H := wpAnyL_lex (md := .any) (g := l.toArray.size - m) hsel hs hc hn (l.take m) 0 _ a (fun j hj => by
    have hj' : j < m := by rw [htl] at hj; exact hj
    simp [hj']) (by simpa using htl) inv0 (by rw [htl]; exact hlex) h
  refine wpIn_region_any hm (wpAnyIn_of_wpAny hd hQ _ _ _ _ ?_)
  have := wpAny_of_head (Q' := Q) (g := l.toArray.size - m) (fun listed a' hL => by
    have := wpAny_of_seq (md := .any) (Q' := Q) (l.drop m) m listed a' { w with drawn := w.drawn + 1 } (fun j => by simp [List.getElem?_drop]) (by rw [hdl]; exact hL.1) hL.2
    rwa [hdl] at this) _ _ _ H
  rw [htl, show m + (l.toArray.size - m) = l.toArray.size by omega] at this
  exact this
end Go.Proofs.YtdbpmojblgmhdaaDoor
