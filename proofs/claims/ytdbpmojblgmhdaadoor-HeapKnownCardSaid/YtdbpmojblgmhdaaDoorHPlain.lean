/-
  A heap in plain Lean: what its free pages and slots are, by the regions that are live or rest; what a region more, or less, changes. No condition.
-/

import Derived.Test.YtdbpmojblgmhdaaDoorBase
import Derived.Test.YtdbpmojblgmhdaaDoorPool
import Derived.Test.YtdbpmojblgmhdaaDoorTake
import Derived.Test.YtdbpmojblgmhdaaDoorPlain
set_option linter.unusedVariables false
namespace Go.Proofs.YtdbpmojblgmhdaaDoor
open Go.ChangeShapes Go.WideShapes Go.ChangeAt Go.RowKit
abbrev Rg := Nat × Nat
/-! ### words -/
def sz (c : Nat) : Nat := 16 * 2 ^ c
def per (c : Nat) : Nat := 16 / 2 ^ c
theorem five {c : Nat} (h : c < 5) : c = 0 ∨ c = 1 ∨ c = 2 ∨ c = 3 ∨ c = 4 := by omega
theorem sz_cases {c : Nat} (h : c < 5) : (sz c = 16 ∧ per c = 16) ∨ (sz c = 32 ∧ per c = 8) ∨ (sz c = 64 ∧ per c = 4) ∨ (sz c = 128 ∧ per c = 2) ∨ (sz c = 256 ∧ per c = 1) := by
  rcases five h with rfl | rfl | rfl | rfl | rfl <;> simp [sz, per]
theorem sz_inj {a b : Nat} (ha : a < 5) (hb : b < 5) (h : sz a = sz b) : a = b := by
  rcases five ha with rfl | rfl | rfl | rfl | rfl <;> rcases five hb with rfl | rfl | rfl | rfl | rfl <;> simp [sz] at h ⊢
/-- Is a page touched? -/
def tou (A : List Rg) (p : Nat) : Bool := A.any fun x => decide (x.1 < 256 * p + 256) && decide (256 * p < x.1 + x.2)
def inn (own : Rg) (p : Nat) : Bool := decide (own.1 ≤ 256 * p) && decide (256 * p + 256 ≤ own.1 + own.2)
/-- The pages that are free; the pages of a class; its free slots. -/
def frP (own : Rg) (A : List Rg) (p : Nat) : Bool := inn own p && !tou A p
def tcl (A : List Rg) (c p : Nat) : Bool := A.any fun x => decide (x.2 = sz c) && decide (x.1 / 256 = p)
def fcl (A : List Rg) (c p s : Nat) : Bool := tcl A c p && (decide (s < per c) && !decide ((256 * p + s * sz c, sz c) ∈ A))
theorem tou_iff (A : List Rg) (p : Nat) : tou A p = true ↔ ∃ x ∈ A, x.1 < 256 * p + 256 ∧ 256 * p < x.1 + x.2 := by
  unfold tou; simp [List.any_eq_true]
theorem tcl_iff (A : List Rg) (c p : Nat) : tcl A c p = true ↔ ∃ x ∈ A, x.2 = sz c ∧ x.1 / 256 = p := by
  unfold tcl; simp [List.any_eq_true]
theorem fcl_iff (A : List Rg) (c p s : Nat) : fcl A c p s = true ↔ tcl A c p = true ∧ s < per c ∧ (256 * p + s * sz c, sz c) ∉ A := by
  unfold fcl; simp
theorem inn_iff (own : Rg) (p : Nat) : inn own p = true ↔ own.1 ≤ 256 * p ∧ 256 * p + 256 ≤ own.1 + own.2 := by
  unfold inn; simp
theorem frP_iff (own : Rg) (A : List Rg) (p : Nat) : frP own A p = true ↔ inn own p = true ∧ tou A p = false := by
  unfold frP; simp
section
variable {A B : List Rg} (h : ∀ x, x ∈ A ↔ x ∈ B)
include h
theorem tou_congr : tou A = tou B := funext fun p => by
  rw [Bool.eq_iff_iff, tou_iff, tou_iff]
  exact ⟨fun ⟨x, hx, r⟩ => ⟨x, (h x).1 hx, r⟩, fun ⟨x, hx, r⟩ => ⟨x, (h x).2 hx, r⟩⟩
theorem tcl_congr : tcl A = tcl B := funext fun c => funext fun p => by
  rw [Bool.eq_iff_iff, tcl_iff, tcl_iff]
  exact ⟨fun ⟨x, hx, r⟩ => ⟨x, (h x).1 hx, r⟩, fun ⟨x, hx, r⟩ => ⟨x, (h x).2 hx, r⟩⟩
theorem fcl_congr : fcl A = fcl B := funext fun c => funext fun p => funext fun s => by
  rw [Bool.eq_iff_iff, fcl_iff, fcl_iff, tcl_congr h, h]
theorem frP_congr (own : Rg) : frP own A = frP own B := funext fun p => by
  unfold frP; rw [tou_congr h]
end
/-- Regions as a heap has them. -/
structure Good (own : Rg) (A : List Rg) : Prop where
  o1 : own.1 % 256 = 0
  o2 : own.2 % 256 = 0
  o3 : 0 < own.2
  o4 : own.1 + own.2 ≤ 262144
  inside : ∀ x ∈ A, own.1 ≤ x.1 ∧ x.1 + x.2 ≤ own.1 + own.2
  shape : ∀ x ∈ A, (∃ c, c < 5 ∧ x.2 = sz c ∧ x.1 % sz c = 0) ∨ (256 < x.2 ∧ x.1 % 256 = 0 ∧ x.2 % 256 = 0)
  fit : ∀ x ∈ A, ∃ a : Nat, padR (x.2 : Int) = some ((x.2 : Int), (a : Int)) ∧ x.1 % a = 0
  apart : ∀ x ∈ A, ∀ y ∈ A, x ≠ y → x.1 + x.2 ≤ y.1 ∨ y.1 + y.2 ≤ x.1
  page : ∀ x ∈ A, ∀ y ∈ A, ∀ p, tou [x] p = true → tou [y] p = true → x = y ∨ (x.2 = y.2 ∧ x.2 ≤ 256)
section
variable {own : Rg} {A : List Rg}
theorem tou_one (x : Rg) (p : Nat) : tou [x] p = true ↔ x.1 < 256 * p + 256 ∧ 256 * p < x.1 + x.2 := by rw [tou_iff]; simp
theorem Good.sub (h : Good own A) {B : List Rg} (hs : ∀ x ∈ B, x ∈ A) : Good own B :=
  ⟨h.o1, h.o2, h.o3, h.o4, fun x hx => h.inside x (hs x hx), fun x hx => h.shape x (hs x hx), fun x hx => h.fit x (hs x hx), fun x hx y hy => h.apart x (hs x hx) y (hs y hy), fun x hx y hy => h.page x (hs x hx) y (hs y hy)⟩
theorem Good.pos (h : Good own A) {x : Rg} (hx : x ∈ A) : 16 ≤ x.2 := by
  rcases h.shape x hx with ⟨c, hc, e, _⟩ | ⟨h1, _⟩
  · rcases sz_cases hc with q | q | q | q | q <;> omega
  · omega
/-- A small one lies in a slot of its page. -/
theorem Good.slot (h : Good own A) {x : Rg} (hx : x ∈ A) {c : Nat} (hc : c < 5) (e : x.2 = sz c) : ∃ s, s < per c ∧ x.1 = 256 * (x.1 / 256) + s * sz c := by
  rcases h.shape x hx with ⟨d, hd, e2, hm⟩ | ⟨h1, _⟩
  · obtain rfl := sz_inj hc hd (e.symm.trans e2)
    refine ⟨x.1 % 256 / sz c, ?_, ?_⟩
    · rcases sz_cases hc with ⟨q, r⟩ | ⟨q, r⟩ | ⟨q, r⟩ | ⟨q, r⟩ | ⟨q, r⟩ <;> rw [q] at hm ⊢ <;> rw [r] <;> omega
    · rcases sz_cases hc with ⟨q, r⟩ | ⟨q, r⟩ | ⟨q, r⟩ | ⟨q, r⟩ | ⟨q, r⟩ <;> rw [q] at hm ⊢ <;> omega
  · rcases sz_cases hc with q | q | q | q | q <;> omega
theorem slot_page {c p s : Nat} (hc : c < 5) (hs : s < per c) : (256 * p + s * sz c) / 256 = p ∧ 256 * p + s * sz c + sz c ≤ 256 * p + 256 := by
  rcases sz_cases hc with ⟨q, r⟩ | ⟨q, r⟩ | ⟨q, r⟩ | ⟨q, r⟩ | ⟨q, r⟩ <;> rw [q] <;> rw [r] at hs <;> omega
theorem slot_inj {c p s t : Nat} (hc : c < 5) (h : 256 * p + s * sz c = 256 * p + t * sz c) : s = t := by
  rcases sz_cases hc with ⟨q, r⟩ | ⟨q, r⟩ | ⟨q, r⟩ | ⟨q, r⟩ | ⟨q, r⟩ <;> rw [q] at h <;> omega
theorem slot_apart {c p s t : Nat} (hc : c < 5) (h : s ≠ t) : 256 * p + s * sz c + sz c ≤ 256 * p + t * sz c ∨ 256 * p + t * sz c + sz c ≤ 256 * p + s * sz c := by
  rcases sz_cases hc with ⟨q, r⟩ | ⟨q, r⟩ | ⟨q, r⟩ | ⟨q, r⟩ | ⟨q, r⟩ <;> rw [q] <;> omega
theorem slot_div {c p s : Nat} (hc : c < 5) : (256 * p + s * sz c) % sz c = 0 := by
  rcases sz_cases hc with ⟨q, r⟩ | ⟨q, r⟩ | ⟨q, r⟩ | ⟨q, r⟩ | ⟨q, r⟩ <;> rw [q] <;> omega
theorem sz_bd {c : Nat} (hc : c < 5) : 16 ≤ sz c ∧ sz c ≤ 256 := by rcases sz_cases hc with q | q | q | q | q <;> omega
theorem per_bd {c : Nat} (hc : c < 5) : 1 ≤ per c ∧ per c ≤ 16 := by rcases sz_cases hc with q | q | q | q | q <;> omega
theorem Good.tou_small (h : Good own A) {x : Rg} (hx : x ∈ A) {c : Nat} (hc : c < 5) (e : x.2 = sz c) (p : Nat) : tou [x] p = true ↔ x.1 / 256 = p := by
  obtain ⟨s, hs, hx1⟩ := h.slot hx hc e
  have h2 := (slot_page (p := x.1 / 256) hc hs).2
  have h3 := sz_bd hc
  rw [tou_one]
  omega
theorem Good.tcl_tou (h : Good own A) {c p : Nat} (hc : c < 5) (ht : tcl A c p = true) : tou A p = true := by
  obtain ⟨x, hx, e, hp⟩ := (tcl_iff A c p).1 ht
  have := (tou_one x p).1 ((h.tou_small hx hc e p).2 hp)
  exact (tou_iff A p).2 ⟨x, hx, this⟩
theorem Good.tcl_own (h : Good own A) {c p : Nat} (hc : c < 5) (ht : tcl A c p = true) : inn own p = true := by
  obtain ⟨x, hx, e, hp⟩ := (tcl_iff A c p).1 ht
  have h1 := h.inside x hx
  have h2 := h.o1
  have h3 := h.o2
  have h4 := sz_bd hc
  rw [inn_iff]
  omega
theorem Good.inn_bd (h : Good own A) {p : Nat} (hi : inn own p = true) : p < 1024 := by
  rw [inn_iff] at hi
  have := h.o4
  omega
/-- Who touches a page of a class is of that class. -/
theorem Good.only (h : Good own A) {c p : Nat} (hc : c < 5) (ht : tcl A c p = true) {y : Rg} (hy : y ∈ A) (hp : tou [y] p = true) : y.2 = sz c ∧ y.1 / 256 = p := by
  obtain ⟨x, hx, e, hxp⟩ := (tcl_iff A c p).1 ht
  have h1 := (h.tou_small hx hc e p).2 hxp
  rcases h.page x hx y hy p h1 hp with rfl | ⟨h2, _⟩
  · exact ⟨e, hxp⟩
  · have e2 := h2.symm.trans e
    exact ⟨e2, (h.tou_small hy hc e2 p).1 hp⟩
theorem Good.sound (h : Good own A) {c : Nat} (hc : c < 5) : Sound (per c) (fcl A c) (tcl A c) :=
  ⟨(per_bd hc).1, (per_bd hc).2, fun n s hf => ⟨((fcl_iff A c n s).1 hf).2.1, ((fcl_iff A c n s).1 hf).1⟩, fun _ ht => h.inn_bd (h.tcl_own hc ht)⟩
theorem mem_cons_any (r : Rg) (p : Nat) : tou (r :: A) p = (tou [r] p || tou A p) := by
  rw [Bool.eq_iff_iff, tou_iff, Bool.or_eq_true, tou_iff, tou_iff]; simp
theorem tcl_cons (r : Rg) (c p : Nat) : tcl (r :: A) c p = (tcl [r] c p || tcl A c p) := by
  rw [Bool.eq_iff_iff, tcl_iff, Bool.or_eq_true, tcl_iff, tcl_iff]; simp
/-- One more that touches no page but those where it may be. -/
theorem Good.more (h : Good own A) (r : Rg) (h1 : own.1 ≤ r.1 ∧ r.1 + r.2 ≤ own.1 + own.2) (h2 : (∃ c, c < 5 ∧ r.2 = sz c ∧ r.1 % sz c = 0) ∨ (256 < r.2 ∧ r.1 % 256 = 0 ∧ r.2 % 256 = 0))
    (h3 : ∃ a : Nat, padR (r.2 : Int) = some ((r.2 : Int), (a : Int)) ∧ r.1 % a = 0) (h4 : ∀ y ∈ A, y ≠ r → r.1 + r.2 ≤ y.1 ∨ y.1 + y.2 ≤ r.1) (h5 : ∀ y ∈ A, ∀ p, tou [r] p = true → tou [y] p = true → r.2 = y.2 ∧ r.2 ≤ 256) : Good own (r :: A) where
  o1 := h.o1
  o2 := h.o2
  o3 := h.o3
  o4 := h.o4
  inside := fun x hx => by
    rcases List.mem_cons.1 hx with rfl | hx
    · exact h1
    · exact h.inside x hx
  shape := fun x hx => by
    rcases List.mem_cons.1 hx with rfl | hx
    · exact h2
    · exact h.shape x hx
  fit := fun x hx => by
    rcases List.mem_cons.1 hx with rfl | hx
    · exact h3
    · exact h.fit x hx
  apart := fun x hx y hy hne => by
    rcases List.mem_cons.1 hx with rfl | hx' <;> rcases List.mem_cons.1 hy with rfl | hy'
    · exact absurd rfl hne
    · exact h4 y hy' fun e => hne e.symm
    · exact (h4 x hx' hne).symm
    · exact h.apart x hx' y hy' hne
  page := fun x hx y hy p hp hq => by
    rcases List.mem_cons.1 hx with rfl | hx' <;> rcases List.mem_cons.1 hy with rfl | hy'
    · exact .inl rfl
    · exact .inr (h5 y hy' p hp hq)
    · have := h5 x hx' p hq hp
      exact .inr ⟨this.1.symm, by omega⟩
    · exact h.page x hx' y hy' p hp hq
theorem slot_tou {c p s q : Nat} (hc : c < 5) (hs : s < per c) : tou [(256 * p + s * sz c, sz c)] q = true ↔ q = p := by
  have h1 := slot_page (p := p) hc hs
  have h2 := sz_bd hc
  rw [tou_one]
  dsimp only
  omega
/-! ### a slot more on a page of its class -/
theorem Good.add_slot (h : Good own A) {c p s : Nat} (hc : c < 5) (ht : tcl A c p = true) (hs : s < per c) (hno : (256 * p + s * sz c, sz c) ∉ A) (hfit : ∃ a : Nat, padR (sz c : Int) = some ((sz c : Int), (a : Int)) ∧ (256 * p + s * sz c) % a = 0) : Good own ((256 * p + s * sz c, sz c) :: A) := by
  have hi := (inn_iff own p).1 (h.tcl_own hc ht)
  have h1 := slot_page (p := p) hc hs
  refine h.more _ (by dsimp only; omega) (.inl ⟨c, hc, rfl, slot_div hc⟩) hfit (fun y hy hne => ?_) (fun y hy q hq hyq => ?_)
  · by_cases hyp : tou [y] p = true
    · obtain ⟨e1, e2⟩ := h.only hc ht hy hyp
      obtain ⟨t, htp, e3⟩ := h.slot hy hc e1
      rw [e2] at e3
      have hst : s ≠ t := by
        rintro rfl
        exact hne (Prod.ext e3 e1)
      rw [e3, e1]
      exact slot_apart hc hst
    · rw [tou_one] at hyp
      have := h.pos hy
      try dsimp only
      omega
  · obtain rfl := (slot_tou hc hs).1 hq
    exact ⟨(h.only hc ht hy hyq).1.symm, (sz_bd hc).2⟩
theorem frP_add_slot (h : Good own A) {c p s : Nat} (hc : c < 5) (ht : tcl A c p = true) (hs : s < per c) : frP own ((256 * p + s * sz c, sz c) :: A) = frP own A := funext fun q => by
  unfold frP
  rw [mem_cons_any]
  by_cases e : q = p
  · subst e; rw [h.tcl_tou hc ht]; simp
  · rw [show tou [(256 * p + s * sz c, sz c)] q = false from by rw [← Bool.not_eq_true, slot_tou hc hs]; exact e]
    simp
theorem tcl_add_slot {c p s : Nat} (hc : c < 5) (ht : tcl A c p = true) (hs : s < per c) : tcl ((256 * p + s * sz c, sz c) :: A) = tcl A := funext fun d => funext fun q => by
  rw [tcl_cons]
  by_cases e : tcl [(256 * p + s * sz c, sz c)] d q = true
  · obtain ⟨x, hx, e1, e2⟩ := (tcl_iff _ d q).1 e
    simp at hx
    subst hx
    dsimp only at e1 e2
    rw [(slot_page hc hs).1] at e2
    subst e2
    have : tcl A d p = true := by
      rw [tcl_iff] at ht ⊢
      rw [← e1]; exact ht
    rw [this]; simp
  · simp at e; rw [e]; simp
theorem fcl_cons_ne {r : Rg} {d q t : Nat} (hne : (256 * q + t * sz d, sz d) ≠ r) (hT : tcl (r :: A) d q = tcl A d q) : fcl (r :: A) d q t = fcl A d q t := by
  unfold fcl
  rw [hT]
  simp [hne]
theorem fcl_add_slot {c p s : Nat} (hc : c < 5) (ht : tcl A c p = true) (hs : s < per c) : fcl ((256 * p + s * sz c, sz c) :: A) c = upp (fcl A c) p (upd (fcl A c p) s false) := funext fun q => funext fun t => by
  have hT := congrFun (congrFun (tcl_add_slot (A := A) hc ht hs) c) q
  unfold upp upd
  by_cases e : q = p
  · subst e
    rw [if_pos rfl]
    try dsimp only
    by_cases e2 : t = s
    · subst e2
      rw [if_pos rfl]
      unfold fcl
      simp
    · rw [if_neg e2]
      exact fcl_cons_ne (fun e3 => e2 (slot_inj hc (Prod.mk.inj e3).1)) hT
  · rw [if_neg e]
    by_cases ht2 : t < per c
    · exact fcl_cons_ne (fun e3 => e (by have h1 := (slot_page (p := q) hc ht2).1; have h2 := (slot_page (p := p) hc hs).1; rw [(Prod.mk.inj e3).1] at h1; omega)) hT
    · unfold fcl; simp [ht2]
theorem fcl_other {r : Rg} {c d : Nat} (hc : c < 5) (hd : d < 5) (hne : d ≠ c) (e : r.2 = sz c) : tcl (r :: A) d = tcl A d ∧ fcl (r :: A) d = fcl A d := by
  have h0 : ∀ q, tcl [r] d q = false := fun q => by
    rw [← Bool.not_eq_true, tcl_iff]
    rintro ⟨x, hx, e1, _⟩
    simp at hx
    subst hx
    exact hne (sz_inj hd hc (e1.symm.trans e))
  have hT : ∀ q, tcl (r :: A) d q = tcl A d q := fun q => by rw [tcl_cons, h0]; simp
  exact ⟨funext hT, funext fun q => funext fun t => fcl_cons_ne (fun e3 => hne (sz_inj hd hc (by rw [← e, ← e3]))) (hT q)⟩
/-! ### the first slot of a free page -/
theorem Good.add_page (h : Good own A) {c p : Nat} (hc : c < 5) (hp : frP own A p = true) (hfit : ∃ a : Nat, padR (sz c : Int) = some ((sz c : Int), (a : Int)) ∧ (256 * p) % a = 0) : Good own ((256 * p, sz c) :: A) := by
  obtain ⟨hi, ht⟩ := (frP_iff own A p).1 hp
  rw [inn_iff] at hi
  have h2 := sz_bd hc
  have hno : ∀ y ∈ A, ¬ (y.1 < 256 * p + 256 ∧ 256 * p < y.1 + y.2) := fun y hy hyp => by
    have := (tou_iff A p).2 ⟨y, hy, hyp⟩
    rw [ht] at this; cases this
  refine h.more _ (by dsimp only; omega) (.inl ⟨c, hc, rfl, ?_⟩) hfit (fun y hy _ => ?_) (fun y hy q hq hyq => ?_)
  · have := slot_div (p := p) (s := 0) hc
    simpa using this
  · have := hno y hy
    have := h.pos hy
    try dsimp only
    omega
  · exfalso
    have := hno y hy
    rw [tou_one] at hq hyq
    dsimp only at hq
    omega
theorem page_tou {c p q : Nat} (hc : c < 5) : tou [(256 * p, sz c)] q = true ↔ q = p := by
  have := slot_tou (p := p) (s := 0) (q := q) hc (by have := per_bd hc; omega)
  simpa using this
theorem Good.untouched (h : Good own A) {c p : Nat} (hc : c < 5) (ht : tou A p = false) : tcl A c p = false := by
  rw [← Bool.not_eq_true]
  intro hh
  rw [h.tcl_tou hc hh] at ht; cases ht
theorem frP_add_page {c p : Nat} (hc : c < 5) : frP own ((256 * p, sz c) :: A) = clr (frP own A) p (p + 1) := funext fun q => by
  unfold frP clr
  rw [mem_cons_any]
  by_cases e : q = p
  · subst e
    rw [(page_tou hc).2 rfl]
    simp
  · rw [show tou [(256 * p, sz c)] q = false from by rw [← Bool.not_eq_true, page_tou hc]; exact e]
    have : ¬ (p ≤ q ∧ q < p + 1) := by omega
    simp
    omega
theorem tcl_add_page {c p : Nat} : tcl ((256 * p, sz c) :: A) c = upd (tcl A c) p true := funext fun q => by
  rw [tcl_cons]
  unfold upd
  by_cases e : q = p
  · subst e
    rw [if_pos rfl, Bool.or_eq_true]
    exact .inl ((tcl_iff _ _ _).2 ⟨_, List.mem_singleton.2 rfl, rfl, by dsimp only; omega⟩)
  · rw [if_neg e, show tcl [(256 * p, sz c)] c q = false from by
      rw [← Bool.not_eq_true, tcl_iff]
      rintro ⟨x, hx, _, e2⟩
      simp at hx; subst hx
      dsimp only at e2
      omega]
    simp
theorem fcl_add_page (h : Good own A) {c p : Nat} (hc : c < 5) (hp : tou A p = false) : fcl ((256 * p, sz c) :: A) c = upp (upp (fcl A c) p (ful (per c))) p (upd (upp (fcl A c) p (ful (per c)) p) 0 false) := funext fun q => funext fun t => by
  unfold upp upd
  by_cases e : q = p
  · subst e
    rw [if_pos rfl, if_pos rfl]
    try dsimp only
    have hT : tcl ((256 * q, sz c) :: A) c q = true := by rw [tcl_add_page]; unfold upd; exact if_pos rfl
    have h0 := h.untouched hc hp
    rw [Bool.eq_iff_iff, fcl_iff, hT]
    unfold ful
    by_cases e2 : t = 0
    · subst e2
      simp
    · rw [if_neg e2]
      simp only [true_and, decide_eq_true_eq, and_iff_left_iff_imp]
      intro htp hm
      rcases List.mem_cons.1 hm with e3 | hm
      · have := (Prod.mk.inj e3).1
        have : 256 * q + t * sz c = 256 * q + 0 * sz c := by omega
        exact e2 (slot_inj hc this)
      · have : tcl A c q = true := (tcl_iff _ _ _).2 ⟨_, hm, rfl, (slot_page hc htp).1⟩
        rw [h0] at this; cases this
  · rw [if_neg e, if_neg e]
    have hT : tcl ((256 * p, sz c) :: A) c q = tcl A c q := by rw [tcl_add_page]; unfold upd; exact if_neg e
    by_cases ht2 : t < per c
    · exact fcl_cons_ne (fun e3 => e (by have h1 := (slot_page (p := q) hc ht2).1; rw [(Prod.mk.inj e3).1] at h1; omega)) hT
    · unfold fcl; simp [ht2]
/-! ### a run of free pages -/
theorem run_tou {a k q : Nat} (hk : 0 < k) : tou [(256 * a, 256 * k)] q = true ↔ a ≤ q ∧ q < a + k := by
  rw [tou_one]
  dsimp only
  omega
theorem Good.add_run (h : Good own A) {a k : Nat} (hk : 1 < k) (hp : ∀ i, i < k → frP own A (a + i) = true) (hfit : ∃ b : Nat, padR ((256 * k : Nat) : Int) = some (((256 * k : Nat) : Int), (b : Int)) ∧ (256 * a) % b = 0) : Good own ((256 * a, 256 * k) :: A) := by
  have hi : ∀ i, i < k → own.1 ≤ 256 * (a + i) ∧ 256 * (a + i) + 256 ≤ own.1 + own.2 := fun i hik => (inn_iff own (a + i)).1 ((frP_iff own A (a + i)).1 (hp i hik)).1
  have hno : ∀ y ∈ A, ∀ i, i < k → ¬ (y.1 < 256 * (a + i) + 256 ∧ 256 * (a + i) < y.1 + y.2) := fun y hy i hik hyp => by
    have := (tou_iff A (a + i)).2 ⟨y, hy, hyp⟩
    rw [((frP_iff own A (a + i)).1 (hp i hik)).2] at this; cases this
  have i0 := hi 0 (by omega)
  have i1 := hi (k - 1) (by omega)
  refine h.more _ (by dsimp only; omega) (.inr ⟨by dsimp only; omega, by dsimp only; omega, by dsimp only; omega⟩) hfit (fun y hy _ => ?_) (fun y hy q hq hyq => ?_)
  · have hpos := h.pos hy
    try dsimp only
    rcases Nat.lt_or_ge y.1 (256 * a + 256 * k) with h1 | h1
    · rcases Nat.lt_or_ge (256 * a) (y.1 + y.2) with h2 | h2
      · exfalso
        by_cases h3 : y.1 < 256 * a
        · exact hno y hy 0 (by omega) (by omega)
        · exact hno y hy ((y.1 - 256 * a) / 256) (by omega) (by omega)
      · exact .inr h2
    · exact .inl h1
  · exfalso
    have hq' := (run_tou (by omega)).1 hq
    have := hno y hy (q - a) (by omega)
    rw [tou_one] at hyq
    rw [show a + (q - a) = q by omega] at this
    exact this hyq
theorem frP_add_run {a k : Nat} (hk : 0 < k) : frP own ((256 * a, 256 * k) :: A) = clr (frP own A) a (a + k) := funext fun q => by
  unfold frP clr
  rw [mem_cons_any]
  by_cases e : a ≤ q ∧ q < a + k
  · rw [(run_tou hk).2 e]
    simp [e]
  · rw [show tou [(256 * a, 256 * k)] q = false from by rw [← Bool.not_eq_true, run_tou hk]; exact e]
    simp
    omega
theorem cls_add_run {a k : Nat} (hk : 1 < k) {d : Nat} (hd : d < 5) : tcl ((256 * a, 256 * k) :: A) d = tcl A d ∧ fcl ((256 * a, 256 * k) :: A) d = fcl A d := by
  have hb := sz_bd hd
  have h0 : ∀ q, tcl [((256 * a, 256 * k) : Rg)] d q = false := fun q => by
    rw [← Bool.not_eq_true, tcl_iff]
    rintro ⟨x, hx, e1, _⟩
    simp at hx
    subst hx
    dsimp only at e1
    omega
  have hT : ∀ q, tcl ((256 * a, 256 * k) :: A) d q = tcl A d q := fun q => by rw [tcl_cons, h0]; simp
  exact ⟨funext hT, funext fun q => funext fun t => fcl_cons_ne (fun e3 => by have := (Prod.mk.inj e3).2; omega) (hT q)⟩
/-! ### one less -/
def less (A : List Rg) (r : Rg) : List Rg := A.filter fun x => decide (x ≠ r)
theorem mem_less (r x : Rg) : x ∈ less A r ↔ x ∈ A ∧ x ≠ r := by unfold less; simp [List.mem_filter]
theorem less_back (r : Rg) (hr : r ∈ A) : ∀ x, x ∈ r :: less A r ↔ x ∈ A := fun x => by
  rw [List.mem_cons, mem_less]
  constructor
  · rintro (rfl | h)
    · exact hr
    · exact h.1
  · intro h
    by_cases e : x = r
    · exact .inl e
    · exact .inr ⟨h, e⟩
theorem Good.less (h : Good own A) (r : Rg) : Good own (less A r) := h.sub fun x hx => ((mem_less r x).1 hx).1
/-- A slot less; others of its page are there. -/
theorem less_slot (h : Good own A) {c p s : Nat} (hc : c < 5) (hs : s < per c) (hr : (256 * p + s * sz c, sz c) ∈ A) (ht : tcl (less A (256 * p + s * sz c, sz c)) c p = true) :
    frP own (less A (256 * p + s * sz c, sz c)) = frP own A ∧ tcl (less A (256 * p + s * sz c, sz c)) = tcl A ∧ fcl (less A (256 * p + s * sz c, sz c)) c = upp (fcl A c) p (upd (fcl A c p) s true) ∧
    ∀ d, d < 5 → d ≠ c → fcl (less A (256 * p + s * sz c, sz c)) d = fcl A d := by
  have hb := less_back _ hr
  have g := h.less (256 * p + s * sz c, sz c)
  have e1 := frP_add_slot g hc ht hs
  have e2 := tcl_add_slot (A := less A (256 * p + s * sz c, sz c)) hc ht hs
  have e3 := fcl_add_slot (A := less A (256 * p + s * sz c, sz c)) hc ht hs
  rw [frP_congr hb] at e1
  rw [tcl_congr hb] at e2
  rw [fcl_congr hb] at e3
  refine ⟨e1.symm, e2.symm, ?_, fun d hd hne => ?_⟩
  · rw [e3]
    funext q t
    unfold upp upd
    by_cases e : q = p
    · subst e
      rw [if_pos rfl, if_pos rfl]
      try dsimp only
      by_cases e5 : t = s
      · subst e5
        rw [if_pos rfl, fcl_iff]
        exact ⟨ht, hs, fun hm => ((mem_less _ _).1 hm).2 rfl⟩
      · simp [e5]
    · rw [if_neg e, if_neg e]
  · have := (fcl_other (A := less A (256 * p + s * sz c, sz c)) (r := (256 * p + s * sz c, sz c)) hc hd hne rfl).2
    rw [fcl_congr hb] at this
    exact this.symm
theorem whole_slot (h : Good own A) {c p s : Nat} (hc : c < 5) (hs : s < per c) (hr : (256 * p + s * sz c, sz c) ∈ A) :
    (tcl (less A (256 * p + s * sz c, sz c)) c p = true → ∃ t, t < per c ∧ upd (fcl A c p) s true t = false) ∧
    (tcl (less A (256 * p + s * sz c, sz c)) c p = false → upd (fcl A c p) s true = ful (per c)) := by
  have hT : tcl A c p = true := (tcl_iff _ _ _).2 ⟨_, hr, rfl, (slot_page hc hs).1⟩
  constructor
  · intro ht
    obtain ⟨y, hy, e1, e2⟩ := (tcl_iff _ _ _).1 ht
    obtain ⟨hy1, hy2⟩ := (mem_less _ _).1 hy
    obtain ⟨t, htp, e3⟩ := h.slot hy1 hc e1
    rw [e2] at e3
    have hyt : y = (256 * p + t * sz c, sz c) := Prod.ext e3 e1
    refine ⟨t, htp, ?_⟩
    unfold upd
    rw [if_neg (by rintro rfl; exact hy2 hyt), ← Bool.not_eq_true, fcl_iff]
    rintro ⟨_, _, hn⟩
    exact hn (hyt ▸ hy1)
  · intro ht
    funext t
    unfold upd ful
    by_cases e : t = s
    · subst e; rw [if_pos rfl]; simp [hs]
    · rw [if_neg e, Bool.eq_iff_iff, fcl_iff]
      simp only [hT, true_and, decide_eq_true_eq, and_iff_left_iff_imp]
      intro htp hm
      have : tcl (less A (256 * p + s * sz c, sz c)) c p = true := (tcl_iff _ _ _).2 ⟨_, (mem_less _ _).2 ⟨hm, fun e2 => e (slot_inj hc (Prod.mk.inj e2).1)⟩, rfl, (slot_page hc htp).1⟩
      rw [ht] at this; cases this
/-- A slot less, the last one of its page. -/
theorem less_page (h : Good own A) {c p s : Nat} (hc : c < 5) (hs : s < per c) (hr : (256 * p + s * sz c, sz c) ∈ A) (ht : tcl (less A (256 * p + s * sz c, sz c)) c p = false) :
    frP own A p = false ∧ frP own (less A (256 * p + s * sz c, sz c)) = setr (frP own A) p 1 ∧ tcl (less A (256 * p + s * sz c, sz c)) c = upd (tcl A c) p false ∧ fcl (less A (256 * p + s * sz c, sz c)) c = upp (upp (fcl A c) p (upd (fcl A c p) s true)) p (fun _ => false) ∧
    ∀ d, d < 5 → d ≠ c → tcl (less A (256 * p + s * sz c, sz c)) d = tcl A d ∧ fcl (less A (256 * p + s * sz c, sz c)) d = fcl A d := by
  have hb := less_back _ hr
  have hT : tcl A c p = true := (tcl_iff _ _ _).2 ⟨_, hr, rfl, (slot_page hc hs).1⟩
  have hU : tou (less A (256 * p + s * sz c, sz c)) p = false := by
    rw [← Bool.not_eq_true, tou_iff]
    rintro ⟨y, hy, hyp⟩
    obtain ⟨hy1, _⟩ := (mem_less _ _).1 hy
    obtain ⟨e1, e2⟩ := h.only hc hT hy1 ((tou_one y p).2 hyp)
    have : tcl (less A (256 * p + s * sz c, sz c)) c p = true := (tcl_iff _ _ _).2 ⟨y, hy, e1, e2⟩
    rw [ht] at this; cases this
  have hI := h.tcl_own hc hT
  have hq : ∀ q, q ≠ p → tou A q = tou (less A (256 * p + s * sz c, sz c)) q := fun q hqp => by
    rw [← tou_congr hb, mem_cons_any, show tou [(256 * p + s * sz c, sz c)] q = false from by rw [← Bool.not_eq_true, slot_tou hc hs]; exact hqp]
    simp
  have hc1 : ∀ q, q ≠ p → tcl A c q = tcl (less A (256 * p + s * sz c, sz c)) c q := fun q hqp => by
    rw [← tcl_congr hb, tcl_cons, show tcl [(256 * p + s * sz c, sz c)] c q = false from by
      rw [← Bool.not_eq_true, tcl_iff]
      rintro ⟨x, hx, _, e2⟩
      simp at hx; subst hx
      rw [(slot_page hc hs).1] at e2
      exact hqp e2.symm]
    simp
  refine ⟨?_, funext fun q => ?_, funext fun q => ?_, funext fun q => funext fun t => ?_, fun d hd hne => ?_⟩
  · unfold frP; rw [h.tcl_tou hc hT]; simp
  · show (inn own q && !tou (less A (256 * p + s * sz c, sz c)) q) = ((inn own q && !tou A q) || (decide (p ≤ q) && decide (q < p + 1)))
    by_cases e : q = p
    · subst e; rw [hU, hI]; simp
    · rw [hq q e]; simp; omega
  · unfold upd
    by_cases e : q = p
    · subst e; rw [if_pos rfl]; exact ht
    · rw [if_neg e]; exact (hc1 q e).symm
  · unfold upp
    by_cases e : q = p
    · subst e; rw [if_pos rfl]; unfold fcl; rw [ht]; rfl
    · rw [if_neg e, if_neg e]
      unfold fcl
      rw [hc1 q e]
      by_cases ht2 : t < per c
      · have : (256 * q + t * sz c, sz c) ≠ (256 * p + s * sz c, sz c) := fun e3 => e (by have h1 := (slot_page (p := q) hc ht2).1; have h2 := (slot_page (p := p) hc hs).1; rw [(Prod.mk.inj e3).1] at h1; omega)
        simp [mem_less, this]
      · simp [ht2]
  · have := fcl_other (A := less A (256 * p + s * sz c, sz c)) (r := (256 * p + s * sz c, sz c)) hc hd hne rfl
    rw [tcl_congr hb, fcl_congr hb] at this
    exact ⟨this.1.symm, this.2.symm⟩
/-- A run less. -/
theorem less_run (h : Good own A) {a k : Nat} (hk : 1 < k) (hr : (256 * a, 256 * k) ∈ A) :
    (∀ i, i < k → frP own A (a + i) = false) ∧ frP own (less A (256 * a, 256 * k)) = setr (frP own A) a k ∧ ∀ d, d < 5 → tcl (less A (256 * a, 256 * k)) d = tcl A d ∧ fcl (less A (256 * a, 256 * k)) d = fcl A d := by
  have hb := less_back _ hr
  have hin := h.inside _ hr
  have h1 := h.o1
  have h2 := h.o2
  dsimp only at hin
  refine ⟨fun i hi => ?_, funext fun q => ?_, fun d hd => ?_⟩
  · unfold frP
    rw [(tou_iff A (a + i)).2 ⟨_, hr, by dsimp only; omega⟩]; simp
  · show (inn own q && !tou (less A (256 * a, 256 * k)) q) = ((inn own q && !tou A q) || (decide (a ≤ q) && decide (q < a + k)))
    by_cases e : a ≤ q ∧ q < a + k
    · have hI : inn own q = true := by rw [inn_iff]; omega
      have hU : tou (less A (256 * a, 256 * k)) q = false := by
        rw [← Bool.not_eq_true, tou_iff]
        rintro ⟨y, hy, hyp⟩
        obtain ⟨hy1, hy2⟩ := (mem_less _ _).1 hy
        rcases h.page _ hr y hy1 q ((run_tou (by omega)).2 e) ((tou_one y q).2 hyp) with e2 | e2
        · exact hy2 e2.symm
        · dsimp only at e2; omega
      rw [hI, hU]; simp [e]
    · have : tou A q = tou (less A (256 * a, 256 * k)) q := by
        rw [← tou_congr hb, mem_cons_any, show tou [(256 * a, 256 * k)] q = false from by rw [← Bool.not_eq_true, run_tou (by omega)]; exact e]
        simp
      rw [this]; simp; omega
  · have := cls_add_run (A := less A (256 * a, 256 * k)) (a := a) hk hd
    rw [tcl_congr hb, fcl_congr hb] at this
    exact ⟨this.1.symm, this.2.symm⟩
end
end Go.Proofs.YtdbpmojblgmhdaaDoor
