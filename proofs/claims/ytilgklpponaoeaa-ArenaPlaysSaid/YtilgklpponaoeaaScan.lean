/-
  What scan.Stale computes: a capability whose base lies in what is painted; a paint that may be none. Condition: numbers in their types' ranges.
-/




import Derived.Test.YtilgklpponaoeaaMade
import Derived.Test.YtilgklpponaoeaaAdd
set_option linter.unusedVariables false
namespace Go.Proofs.Ytilgklpponaoeaa
open Go.ChangeShapes Go.WideShapes Go.ChangeAt Go.RowKit
/-- A paint at a pointer, or none; hs tells what is painted; its blocks lie below B. -/
def Hs (B : Nat) (w : World) (pv : Option Addr) (hs : Int → Bool) : Prop :=
  (pv = none ∧ hs = fun _ => false) ∨ ∃ pp p g n f, pv = some ⟨pp, 0, none⟩ ∧ Pt w pp p g n f ∧ hs = hasP n f ∧ pp < B ∧ p < B ∧ g < B
section
variable {B B' : Nat} {w w' : World} {pv : Option Addr} {hs : Int → Bool} {S : List Nat}
theorem Hs.fr (h : Hs B w pv hs) (f : Fr S w w') (hS : ∀ k ∈ S, B ≤ k) : Hs B w' pv hs := by
  rcases h with h | ⟨pp, p, g, n, F, h1, h2, h3, h4, h5, h6⟩
  · exact .inl h
  · exact .inr ⟨pp, p, g, n, F, h1, h2.fr f (fun h => by have := hS _ h; omega) (fun h => by have := hS _ h; omega) (fun h => by have := hS _ h; omega), h3, h4, h5, h6⟩
theorem Hs.hp (h : Hs B w pv hs) (hv : w'.heap = w.heap) : Hs B w' pv hs := by
  rcases h with h | ⟨pp, p, g, n, F, h1, h2, h3⟩
  · exact .inl h
  · exact .inr ⟨pp, p, g, n, F, h1, h2.heap hv, h3⟩
theorem Hs.up (h : Hs B w pv hs) (hB : B ≤ B') : Hs B' w pv hs := by
  rcases h with h | ⟨pp, p, g, n, F, h1, h2, h3, h4, h5, h6⟩
  · exact .inl h
  · exact .inr ⟨pp, p, g, n, F, h1, h2, h3, by omega, by omega, by omega⟩
theorem Hs.of {pp p g n : Nat} {f : Nat → Bool} (h : Pt w pp p g n f) : Hs w.heap.size w (some ⟨pp, 0, none⟩) (hasP n f) := .inr ⟨pp, p, g, n, f, rfl, h, rfl, h.lt.1, h.lt.2.1, h.lt.2.2⟩
end
def nohs : Int → Bool := fun _ => false
theorem Hs.nil (B : Nat) (w : World) : Hs B w none nohs := .inl ⟨rfl, rfl⟩
theorem has_any {B : Nat} {w : World} {pv : Option Addr} {hs : Int → Bool} (h : Hs B w pv hs) (a : Int) (ha : 0 ≤ a) (ha2 : a ≤ 4294967295) :
    Calls Try.prog 83 #[.pointer pv, .int .u32 a] w fun r w' => r = .returned (.bool (hs a)) ∧ w = w' := by
  rcases h with ⟨rfl, rfl⟩ | ⟨pp, p, g, n, F, rfl, h2, rfl, _⟩
  · exact pthas_nil w a
  · exact pthas_any w pp p g n F h2 a ha ha2
def stB (hs : Int → Bool) (c : Cp) : Bool := c.v && hs c.base
theorem stale_any {B : Nat} {w : World} {pv : Option Addr} {hs : Int → Bool} (h : Hs B w pv hs) (hB : B ≤ w.heap.size) (c : Cp) (hc : c.cur < 4294967296) :
    Calls Try.prog 60 #[.agg #[.pointer pv], .agg c.cells] w fun r w' => r = .returned (.bool (stB hs c)) ∧ Fr [] w w' := by
  have hbd := dec_bd c.e c.b c.t c.cur
  have F0 := Lib.hid (show Fr [] w ((w.alloc (.cells #[.pointer pv] 113)).alloc (.cells c.cells 38)) from (by repeat (first | exact Fr.refl _ _ | assumption | refine Fr.trans0 ?_ (by assumption) | refine Fr.drewN ?_ _ | refine Fr.alloc ?_ _ | refine Fr.drew ?_)))
  have A0 := Lib.hid ((At.new w 113 #[.pointer pv]).old (.cells c.cells 38))
  have A1 := At.new (w.alloc (.cells #[.pointer pv] 113)) 38 c.cells
  rw [World.size_alloc] at A1
  have A1 := Lib.hid A1
  have C1 := Lib.hid fun W => range_any W c hc
  have C2 := Lib.hid fun (W : World) (hW : Fr [] w W) => has_any (h.fr hW (by simp)) c.base hbd.1 (by have := hbd.2.1; unfold Cp.base; omega)
  unfold stB
  generalize c.base = X at *
  generalize c.top = Y at *
  generalize hs X = b at *
  obtain ⟨cur, e, cb, ct, pm, ty, rs, v⟩ := c
  unfold Cp.cells at *
  dsimp only at *
  clear hbd h
  cases v
  · go_enter Try.func60, Try.ntmps60
    go_wp2_with (first | (go_at_call 82; refine (C1.out _).mono ?_; rintro e w2 ⟨rfl, hf2⟩; have c7 := (A1.out.fr hf2 (by simp)).cell 7; have c0 := (A0.out.fr hf2 (by simp)).cell 0; simp only [List.getElem?_toArray, List.getElem?_cons_zero, List.getElem?_cons_succ] at c7 c0) | (go_at_call 83; refine (C2.out _ (F0.out.trans0 hf2)).mono ?_; rintro e w3 ⟨rfl, rfl⟩))
    go_ret
    exact ⟨rfl, F0.out.trans0 hf2⟩
  · go_enter Try.func60, Try.ntmps60
    go_wp2_with (first | (go_at_call 82; refine (C1.out _).mono ?_; rintro e w2 ⟨rfl, hf2⟩; have c7 := (A1.out.fr hf2 (by simp)).cell 7; have c0 := (A0.out.fr hf2 (by simp)).cell 0; simp only [List.getElem?_toArray, List.getElem?_cons_zero, List.getElem?_cons_succ] at c7 c0) | (go_at_call 83; refine (C2.out _ (F0.out.trans0 hf2)).mono ?_; rintro e w3 ⟨rfl, rfl⟩))
    go_ret
    exact ⟨rfl, F0.out.trans0 hf2⟩
theorem sstale_any {B : Nat} {w : World} {pv : Option Addr} {hs : Int → Bool} (h : Hs B w pv hs) (hB : B ≤ w.heap.size) (c : Cp) (hc : c.cur < 4294967296) :
    Calls Try.prog 27 #[.agg c.cells, .pointer pv] w fun r w' => r = .returned (.bool (stB hs c)) ∧ Fr [] w w' := by
  have C := Lib.hid fun (W : World) (hW : Fr [] w W) => stale_any (h.fr hW (by simp)) (Nat.le_trans hB hW.size) c hc
  generalize stB hs c = b at *
  unfold Cp.cells at *
  clear h
  go_enter Try.func27, Try.ntmps27
  go_wp2_with (go_at_call 60; refine (C.out _ (by repeat (first | exact Fr.refl _ _ | assumption | refine Fr.trans0 ?_ (by assumption) | refine Fr.drewN ?_ _ | refine Fr.alloc ?_ _ | refine Fr.drew ?_))).mono ?_; rintro e w2 ⟨rfl, hf2⟩)
  go_ret
  exact ⟨rfl, (Fr.alloc (Fr.refl [] w) _).trans0 hf2⟩
end Go.Proofs.Ytilgklpponaoeaa
