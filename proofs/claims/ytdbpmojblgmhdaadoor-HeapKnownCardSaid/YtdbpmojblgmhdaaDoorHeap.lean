/-
  A heap in memory: its cells, its pool, its books, its two sets; what a slot of a class is. Condition: the table of math/bits is as the library lays it.
-/



import Derived.Test.YtdbpmojblgmhdaaDoorHPlain
import Derived.Test.YtdbpmojblgmhdaaDoorList
import Derived.Test.YtdbpmojblgmhdaaDoorMake
set_option linter.unusedVariables false
namespace Go.Proofs.YtdbpmojblgmhdaaDoor
open Go.ChangeShapes Go.WideShapes Go.ChangeAt Go.RowKit
/-- Where the parts of a heap lie. -/
structure HId where
  hp : Nat
  pp : Nat
  pt : Nat
  pg : Nat
  lb : Nat
  rb : Nat
  bk : Nat → Nat
def HId.foot (I : HId) : List Nat := [I.hp, I.pp, I.pt, I.pg, I.lb, I.rb, I.bk 0, I.bk 1, I.bk 2, I.bk 3, I.bk 4]
theorem HId.bk_mem (I : HId) {c : Nat} (hc : c < 5) : I.bk c ∈ I.foot := by
  unfold HId.foot
  rcases five hc with rfl | rfl | rfl | rfl | rfl <;> simp
def ptr (b : Nat) : Value := .pointer (some ⟨b, 0, none⟩)
def hcells (own : Rg) (I : HId) : Array Value := #[.int .u32 own.1, .int .u32 own.2, ptr I.pp, ptr (I.bk 0), ptr (I.bk 1), ptr (I.bk 2), ptr (I.bk 3), ptr (I.bk 4), .map (some I.lb), .map (some I.rb)]
/-- The parts but the two sets, of the regions A. -/
structure Hb (w : World) (I : HId) (own : Rg) (A : List Rg) : Prop where
  c : At w I.hp 55 (hcells own I)
  p : Pl w I.pp I.pt I.pg 1024 (frP own A)
  b : ∀ c, c < 5 → Book w (I.bk c) (per c) (fcl A c) (tcl A c)
  nd : I.foot.Nodup
  g : Good own A
/-- A heap whose regions L are live, and R rest. -/
structure Hp (w : World) (I : HId) (own : Rg) (L R : List Rg) : Prop where
  h : Hb w I own (L ++ R)
  l : Ms w I.lb L
  r : Ms w I.rb R
  sl : L.Pairwise (fun a b => a.1 < b.1)
  sr : R.Pairwise (fun a b => a.1 < b.1)
  dj : ∀ x ∈ L, x ∉ R
section
variable {w w' : World} {I : HId} {own : Rg} {A L R : List Rg} {S : List Nat}
theorem Hb.fr (h : Hb w I own A) (f : Fr S w w') (hS : ∀ k ∈ I.foot, k ∉ S) : Hb w' I own A :=
  ⟨h.c.fr f (hS _ (by simp [HId.foot])), h.p.fr f (hS _ (by simp [HId.foot])) (hS _ (by simp [HId.foot])) (hS _ (by simp [HId.foot])), fun c hc => (h.b c hc).fr f (hS _ (I.bk_mem hc)), h.nd, h.g⟩
theorem Hp.fr (h : Hp w I own L R) (f : Fr S w w') (hS : ∀ k ∈ I.foot, k ∉ S) : Hp w' I own L R :=
  ⟨h.h.fr f hS, h.l.fr f (hS _ (by simp [HId.foot])), h.r.fr f (hS _ (by simp [HId.foot])), h.sl, h.sr, h.dj⟩
theorem Hb.fr0 (h : Hb w I own A) (f : Fr [] w w') : Hb w' I own A := h.fr f (by simp)
theorem Hp.fr0 (h : Hp w I own L R) (f : Fr [] w w') : Hp w' I own L R := h.fr f (by simp)
theorem Hb.congr {B : List Rg} (h : Hb w I own A) (e : ∀ x, x ∈ A ↔ x ∈ B) : Hb w I own B :=
  ⟨h.c, frP_congr e own ▸ h.p, fun c hc => by rw [← fcl_congr e, ← tcl_congr e]; exact h.b c hc, h.nd, h.g.sub fun x hx => (e x).2 hx⟩
theorem Hp.lt (h : Hp w I own L R) : ∀ k ∈ I.foot, k < w.heap.size := by
  have h1 := h.h.c.lt
  have h2 := h.h.p.1.lt
  have h3 := h.h.p.2.1.lt
  have h4 := fun c hc => (h.h.b c hc).lt
  have h5 := h.l.lt
  have h6 := h.r.lt
  intro k hk
  simp only [HId.foot, List.mem_cons, List.not_mem_nil, or_false] at hk
  rcases hk with rfl | rfl | rfl | rfl | rfl | rfl | rfl | rfl | rfl | rfl | rfl
  · exact h1
  · exact h2
  · exact h3.1
  · exact h3.2
  · exact h5
  · exact h6
  · exact h4 0 (by omega)
  · exact h4 1 (by omega)
  · exact h4 2 (by omega)
  · exact h4 3 (by omega)
  · exact h4 4 (by omega)
/-- The cells that a walk reads. -/
theorem Hb.cs (h : Hb w I own A) : w.cell? ⟨I.hp, 0, none⟩ = some (.int .u32 own.1) ∧ w.cell? ⟨I.hp, 1, none⟩ = some (.int .u32 own.2) ∧ w.cell? ⟨I.hp, 2, none⟩ = some (.pointer (some ⟨I.pp, 0, none⟩)) ∧
    w.cell? ⟨I.hp, 8, none⟩ = some (.map (some I.lb)) ∧ w.cell? ⟨I.hp, 9, none⟩ = some (.map (some I.rb)) := by
  refine ⟨?_, ?_, ?_, ?_, ?_⟩ <;> rw [h.c.cell] <;> rfl
theorem Hb.bc (h : Hb w I own A) {c : Nat} (hc : c < 5) : w.cell? ⟨I.hp, 3 + c, none⟩ = some (.pointer (some ⟨I.bk c, 0, none⟩)) := by
  rw [h.c.cell]
  rcases five hc with rfl | rfl | rfl | rfl | rfl <;> rfl
end
theorem hnone_any {w : World} {I : HId} {own : Rg} {A : List Rg} (h : Hb w I own A) : Calls Tryd.prog 26 #[.pointer (some ⟨I.hp, 0, none⟩)] w fun r w' => r = .returned (.bool false) ∧ w = w' := by
  obtain ⟨_, _, c2, _, _⟩ := h.cs
  clear h
  go_enter Tryd.func26, Tryd.ntmps26
  go_wp2
  go_ret
  exact ⟨rfl, rfl⟩
theorem hnone_nil (w : World) : Calls Tryd.prog 26 #[.pointer none] w fun r w' => r = .returned (.bool true) ∧ w = w' := by
  go_enter Tryd.func26, Tryd.ntmps26
  go_wp2
  go_ret
  exact ⟨rfl, rfl⟩
/-- The first free slot of a class. -/
def First (A : List Rg) (c n s : Nat) : Prop := fcl A c n s = true ∧ (∀ x, x < n → ∀ t, fcl A c x t = false) ∧ ∀ t, t < s → fcl A c n t = false
theorem tot_zero (F : Nat → Nat → Bool) (h : ∀ n s, F n s = false) : ∀ m, tot F m = 0
  | 0 => rfl
  | m + 1 => by
    have : cnt (F m) 16 = 0 := by
      exact cnt_zero (F m) 16 fun i _ => h m i
    simp only [tot]; rw [tot_zero F h m, this]
theorem tot_pos (F : Nat → Nat → Bool) (n s : Nat) (hs : s < 16) (h : F n s = true) : ∀ m, n < m → 0 < tot F m
  | m + 1, hm => by
    simp only [tot]
    by_cases e : n = m
    · subst e
      have := cnt_pos (F n) 16 s hs h
      omega
    · have := tot_pos F n s hs h m (by omega); omega
theorem btake_is {w : World} {bp per : Nat} {F : Nat → Nat → Bool} {T : Nat → Bool} (h : Book w bp per F T) (hT : Tab32 w) (hbt : bp ≠ 0) (n s : Nat) (h1 : F n s = true) (h2 : ∀ x, x < n → ∀ t, F x t = false) (h3 : ∀ t, t < s → F n t = false) :
    Calls Tryd.prog 51 #[.pointer (some ⟨bp, 0, none⟩)] w fun e w' => e = .returned (.tuple #[.int .i64 n, .int .i64 s, .bool true]) ∧ Book w' bp per (upp F n (upd (F n) s false)) T ∧ Fr [bp] w w' := by
  obtain ⟨hs, hTn⟩ := h.2.2.2.1 n s h1
  have hs16 : s < 16 := by have := h.2.2.1; omega
  refine btake_any h hT hbt _ (fun hz w' hf => ?_) (fun y hTy hy hlt w' hb hf => ?_)
  · exact absurd (hz n hTn) (wd_pos F n s hs16 h1)
  · obtain ⟨p1, p2, p3⟩ := sl_spec F y hy
    obtain rfl : y = n := by
      rcases Nat.lt_trichotomy y n with e | e | e
      · rw [h2 y e] at p2; cases p2
      · exact e
      · exact absurd (hlt n e hTn) (wd_pos F n s hs16 h1)
    obtain ⟨z, hz⟩ : ∃ z, sl F y = z := ⟨_, rfl⟩
    rw [hz] at p1 p2 p3 hb ⊢
    have e2 : z = s := by
      rcases Nat.lt_trichotomy z s with e | e | e
      · rw [h3 z e] at p2; cases p2
      · exact e
      · rw [p3 s e] at h1; cases h1
    rw [e2] at hb ⊢
    exact ⟨rfl, hb, hf⟩
theorem book_tab {w : World} {bp per : Nat} {F : Nat → Nat → Bool} {T : Nat → Bool} (h : Book w bp per F T) (hT : Tab32 w) : bp ≠ 0 := by
  rintro rfl
  have h1 := hT 0 (by omega)
  have h2 := h.1.cell 0
  rw [h1] at h2
  unfold ba at h2
  rw [arr_get _ _ _ (by omega)] at h2
  simp [bc] at h2
end Go.Proofs.YtdbpmojblgmhdaaDoor
