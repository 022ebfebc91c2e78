/-
  A history, in plain Lean: grants, sweeps and asks as lists, what an event does to them, the faults of a history; what follows where there are none. No program in sight; no condition.
-/
import Derived.Test.YtkbdoiefgmbikaaBase
set_option linter.unusedVariables false
namespace Go.Proofs.Ytkbdoiefgmbikaa
structure Ev where
  kind : Int
  hart : Int
  val : Nat
  num : Nat
  a : Nat
  s : Nat
deriving DecidableEq
structure Gr where
  n : Nat
  a : Nat
  s : Nat
  rests : Bool
  batch : Bool
  freed : Nat
structure Ak where
  h : Int
  t : Nat
  e : Nat
structure Sx where
  gs : List Gr
  num : Nat
  sw : Bool
  sws : Nat
  ks : List Ak
def meetB (a s a' s' : Nat) : Bool := decide (max a a' < min (a + s) (a' + s'))
def findG (l : List Gr) (n : Nat) : Option Gr := l.find? fun g => g.n == n
def findA (l : List Ak) (h : Int) : Option Ak := l.find? fun x => x.h == h
def isB (x : Sx) (e : Ev) : Bool := match findG x.gs e.num with | some g => decide (g.a = e.a) && decide (g.s = e.s) | none => false
def grantS (ha hs : Nat) (x : Sx) (e : Ev) : Nat × Sx :=
  if e.num ≠ x.num + 1 then (2, x) else if e.s = 0 ∨ e.a < ha ∨ ha + hs < e.a + e.s then (6, x) else if x.gs.any (fun g => meetB g.a g.s e.a e.s) then (11, x) else
  (0, { x with gs := x.gs ++ [⟨e.num, e.a, e.s, false, false, 0⟩], num := x.num + 1 })
def beginS (x : Sx) (e : Ev) : Nat × Sx :=
  if x.sw = true ∨ e.num ≠ x.sws + 1 then (4, x) else (0, { x with sw := true, sws := x.sws + 1, gs := x.gs.map fun g => { g with batch := g.rests } })
def endS (x : Sx) (e : Ev) : Nat × Sx :=
  if x.sw = false ∨ e.num ≠ x.sws then (4, x) else if x.gs.any (·.batch) then (5, x) else if x.ks.any (fun k => decide (2 ≤ k.e)) then (3, x) else
  (0, { x with sw := false, ks := x.ks.map fun k => { k with e := k.e + 1 } })
def drainS (x : Sx) (h : Int) : Nat × Sx :=
  match findA x.ks h with
  | none => (5, x)
  | some k => if x.gs.any (fun g => g.rests && decide (g.freed < k.t)) then (8, x) else (0, { x with ks := x.ks.filter fun k => !(k.h == h) })
def freeS (x : Sx) (e : Ev) (i : Nat) : Nat × Sx :=
  match findG x.gs e.num with
  | none => (5, x)
  | some g => if isB x e = false ∨ g.rests = true then (5, x) else (0, { x with gs := x.gs.map fun g => if g.n = e.num then { g with rests := true, freed := i } else g })
def releaseS (x : Sx) (e : Ev) : Nat × Sx :=
  match findG x.gs e.num with
  | none => (8, x)
  | some g => if x.sw = false ∨ isB x e = false ∨ g.batch = false then (8, x) else (0, { x with gs := x.gs.filter fun g => !(g.n == e.num) })
def askS (x : Sx) (h : Int) (i : Nat) : Nat × Sx :=
  match findA x.ks h with
  | some _ => (11, x)
  | none => (0, { x with ks := x.ks ++ [⟨h, i, 0⟩] })
def seeS (ha hs : Nat) (x : Sx) (e : Ev) (i : Nat) : Nat × Sx :=
  if e.kind = 2 then grantS ha hs x e else if e.kind = 3 then freeS x e i else if e.kind = 6 then beginS x e else if e.kind = 4 then releaseS x e else if e.kind = 7 then endS x e else
  if e.kind = 11 then askS x e.hart i else if e.kind = 10 then drainS x e.hart else (0, x)
def sx0 : Sx := ⟨[], 0, false, 0, []⟩
def ft (c i : Nat) : List (Nat × Nat) := if c = 0 then [] else [(c, i)]
/-- the state behind the events, and the faults on the way -/
def histF (ha hs : Nat) : List Ev → Nat → Sx → List (Nat × Nat)
  | [], _, _ => []
  | e :: l, i, x => ft (seeS ha hs x e i).1 i ++ histF ha hs l (i + 1) (seeS ha hs x e i).2
def histX (ha hs : Nat) : List Ev → Nat → Sx → Sx
  | [], _, x => x
  | e :: l, i, x => histX ha hs l (i + 1) (seeS ha hs x e i).2
theorem histF_snoc (ha hs : Nat) (e : Ev) : ∀ (l : List Ev) (i : Nat) (x : Sx), histF ha hs (l ++ [e]) i x = histF ha hs l i x ++ ft (seeS ha hs (histX ha hs l i x) e (i + l.length)).1 (i + l.length)
  | [], i, x => by simp [histF, histX]
  | y :: l, i, x => by
    simp only [List.cons_append, histF, histX, List.length_cons]
    rw [histF_snoc ha hs e l, show i + 1 + l.length = i + (l.length + 1) by omega, List.append_assoc]
theorem histX_snoc (ha hs : Nat) (e : Ev) : ∀ (l : List Ev) (i : Nat) (x : Sx), histX ha hs (l ++ [e]) i x = (seeS ha hs (histX ha hs l i x) e (i + l.length)).2
  | [], i, x => by simp [histX]
  | y :: l, i, x => by
    simp only [List.cons_append, histX, List.length_cons]
    rw [histX_snoc ha hs e l, show i + 1 + l.length = i + (l.length + 1) by omega]
theorem histF_len (ha hs : Nat) : ∀ (l : List Ev) (i : Nat) (x : Sx), (histF ha hs l i x).length ≤ l.length
  | [], i, x => by simp [histF]
  | y :: l, i, x => by
    have := histF_len ha hs l (i + 1) (seeS ha hs x y i).2
    simp only [histF, List.length_append, List.length_cons]
    unfold ft
    split <;> simp <;> omega
theorem histF_append (ha hs : Nat) : ∀ (l m : List Ev) (i : Nat) (x : Sx), histF ha hs (l ++ m) i x = histF ha hs l i x ++ histF ha hs m (i + l.length) (histX ha hs l i x)
  | [], m, i, x => by simp [histF, histX]
  | y :: l, m, i, x => by
    simp only [List.cons_append, histF, histX, List.length_cons]
    rw [histF_append ha hs l m, show i + 1 + l.length = i + (l.length + 1) by omega, List.append_assoc]
theorem histF_at (ha hs : Nat) : ∀ (l : List Ev) (i : Nat) (x : Sx), ∀ p ∈ histF ha hs l i x, i ≤ p.2 ∧ p.2 < i + l.length
  | [], i, x => by simp [histF]
  | y :: l, i, x => by
    intro p hp
    simp only [histF, List.mem_append] at hp
    rcases hp with hp | hp
    · unfold ft at hp
      split at hp
      · cases hp
      · simp at hp; subst hp; simp
    · have := histF_at ha hs l (i + 1) _ p hp
      simp only [List.length_cons]
      omega
theorem histX_append (ha hs : Nat) : ∀ (l m : List Ev) (i : Nat) (x : Sx), histX ha hs (l ++ m) i x = histX ha hs m (i + l.length) (histX ha hs l i x)
  | [], m, i, x => by simp [histX]
  | y :: l, m, i, x => by
    simp only [List.cons_append, histX, List.length_cons]
    rw [histX_append ha hs l m, show i + 1 + l.length = i + (l.length + 1) by omega]
/-! ### what holds all along -/
structure Sx.Good (x : Sx) (i : Nat) : Prop where
  num : x.num ≤ i
  sws : x.sws ≤ i
  le : ∀ g ∈ x.gs, 1 ≤ g.n ∧ g.n ≤ x.num
  one : (x.gs.map (·.n)).Nodup
  freed : ∀ g ∈ x.gs, g.freed < i ∨ (g.rests = false ∧ g.freed = 0)
  ra : ∀ g ∈ x.gs, g.a < 4294967296 ∧ g.s < 4294967296
  aone : (x.ks.map (·.h)).Nodup
  asa : ∀ k ∈ x.ks, k.t < i ∧ k.e ≤ 3
  glen : x.gs.length ≤ i
  alen : x.ks.length ≤ i
theorem good0 : Sx.Good sx0 0 := ⟨Nat.le_refl _, Nat.le_refl _, by simp [sx0], by simp [sx0], by simp [sx0], by simp [sx0], by simp [sx0], by simp [sx0], by simp [sx0], by simp [sx0]⟩
theorem Sx.Good.more {x : Sx} {i : Nat} (h : x.Good i) : x.Good (i + 1) :=
  ⟨by have := h.num; omega, by have := h.sws; omega, h.le, h.one, fun g hg => (h.freed g hg).imp (by omega) id, h.ra, h.aone, fun k hk => ⟨by have := (h.asa k hk).1; omega, (h.asa k hk).2⟩, by have := h.glen; omega, by have := h.alen; omega⟩
theorem findG_mem {l : List Gr} {n : Nat} {g : Gr} (h : findG l n = some g) : g ∈ l ∧ g.n = n := ⟨List.mem_of_find?_eq_some h, by simpa using List.find?_some h⟩
theorem findA_mem {l : List Ak} {n : Int} {g : Ak} (h : findA l n = some g) : g ∈ l ∧ g.h = n := ⟨List.mem_of_find?_eq_some h, by simpa using List.find?_some h⟩
theorem findG_none {l : List Gr} {n : Nat} (h : findG l n = none) : ∀ g ∈ l, g.n ≠ n := fun g hg => by simpa using List.find?_eq_none.1 h g hg
theorem findA_none {l : List Ak} {n : Int} (h : findA l n = none) : ∀ g ∈ l, g.h ≠ n := fun g hg => by simpa using List.find?_eq_none.1 h g hg
theorem findG_of {l : List Gr} (h : (l.map (·.n)).Nodup) {g : Gr} (hg : g ∈ l) : findG l g.n = some g := by
  unfold findG
  induction l with
  | nil => cases hg
  | cons a l ih =>
    simp only [List.map_cons, List.nodup_cons, List.mem_map, not_exists, not_and] at h
    rcases List.mem_cons.1 hg with rfl | hg
    · simp
    · rw [List.find?_cons_of_neg (by simpa using fun e => h.1 g hg e.symm)]
      exact ih h.2 hg
theorem good_see {ha hs : Nat} {x : Sx} {e : Ev} {i : Nat} (h : x.Good i) (h1 : e.a < 4294967296) (h2 : e.s < 4294967296) : (seeS ha hs x e i).2.Good (i + 1) := by
  have hm := h.more
  unfold seeS
  split
  · unfold grantS
    split
    · exact hm
    · split
      · exact hm
      · split
        · exact hm
        · rename_i hn _ _
          have hn : e.num = x.num + 1 := by omega
          have hnew : ∀ g ∈ x.gs, g.n ≠ e.num := fun g hg => by have := h.le g hg; omega
          refine ⟨?_, hm.sws, ?_, ?_, ?_, ?_, hm.aone, hm.asa, ?_, hm.alen⟩
          · have := h.num; show x.num + 1 ≤ i + 1; omega
          · intro g hg
            rcases List.mem_append.1 hg with hg | hg
            · have := h.le g hg; show 1 ≤ g.n ∧ g.n ≤ x.num + 1; omega
            · simp at hg; subst hg; show 1 ≤ e.num ∧ e.num ≤ x.num + 1; omega
          · rw [List.map_append, List.nodup_append]
            refine ⟨h.one, by simp, ?_⟩
            intro a ha b hb
            simp at hb
            subst hb
            obtain ⟨g, hg, rfl⟩ := List.mem_map.1 ha
            exact hnew g hg
          · intro g hg
            rcases List.mem_append.1 hg with hg | hg
            · exact hm.freed g hg
            · simp at hg; subst hg; exact .inr ⟨rfl, rfl⟩
          · intro g hg
            rcases List.mem_append.1 hg with hg | hg
            · exact h.ra g hg
            · simp at hg; subst hg; exact ⟨h1, h2⟩
          · have := h.glen; simp; omega
  · split
    · unfold freeS
      split
      · exact hm
      · split
        · exact hm
        · refine ⟨hm.num, hm.sws, ?_, ?_, ?_, ?_, hm.aone, hm.asa, by simpa using hm.glen, hm.alen⟩
          · intro g hg
            obtain ⟨g0, hg0, rfl⟩ := List.mem_map.1 hg
            have := h.le g0 hg0
            split <;> exact this
          · rw [List.map_map]
            have : ((fun g : Gr => g.n) ∘ fun g => if g.n = e.num then { g with rests := true, freed := i } else g) = fun g => g.n := by funext g; simp only [Function.comp]; split <;> rfl
            rw [this]; exact h.one
          · intro g hg
            obtain ⟨g0, hg0, rfl⟩ := List.mem_map.1 hg
            split
            · exact .inl (by simp)
            · exact hm.freed g0 hg0
          · intro g hg
            obtain ⟨g0, hg0, rfl⟩ := List.mem_map.1 hg
            split <;> exact h.ra g0 hg0
    · split
      · unfold beginS
        split
        · exact hm
        · refine ⟨hm.num, by have := h.sws; show x.sws + 1 ≤ i + 1; omega, ?_, ?_, ?_, ?_, hm.aone, hm.asa, by simpa using hm.glen, hm.alen⟩
          · intro g hg
            obtain ⟨g0, hg0, rfl⟩ := List.mem_map.1 hg
            exact h.le g0 hg0
          · rw [List.map_map]; exact h.one
          · intro g hg
            obtain ⟨g0, hg0, rfl⟩ := List.mem_map.1 hg
            exact hm.freed g0 hg0
          · intro g hg
            obtain ⟨g0, hg0, rfl⟩ := List.mem_map.1 hg
            exact h.ra g0 hg0
      · split
        · unfold releaseS
          split
          · exact hm
          · split
            · exact hm
            · refine ⟨hm.num, hm.sws, fun g hg => h.le g (List.mem_filter.1 hg).1, ?_, fun g hg => hm.freed g (List.mem_filter.1 hg).1, fun g hg => h.ra g (List.mem_filter.1 hg).1, hm.aone, hm.asa, Nat.le_trans (List.length_filter_le _ _) hm.glen, hm.alen⟩
              exact (List.filter_sublist.map _).nodup h.one
        · split
          · unfold endS
            split
            · exact hm
            · split
              · exact hm
              · split
                · exact hm
                · rename_i hno
                  refine ⟨hm.num, hm.sws, hm.le, hm.one, hm.freed, hm.ra, ?_, ?_, hm.glen, by simpa using hm.alen⟩
                  · rw [List.map_map]; exact h.aone
                  · intro k hk
                    obtain ⟨k0, hk0, rfl⟩ := List.mem_map.1 hk
                    simp only [List.any_eq_true, decide_eq_true_eq, not_exists, not_and] at hno
                    have := hno k0 hk0
                    exact ⟨(hm.asa k0 hk0).1, by show k0.e + 1 ≤ 3; omega⟩
          · split
            · unfold askS
              split
              · exact hm
              · rename_i hno
                refine ⟨hm.num, hm.sws, hm.le, hm.one, hm.freed, hm.ra, ?_, ?_, hm.glen, by have := h.alen; simp; omega⟩
                · rw [List.map_append, List.nodup_append]
                  refine ⟨h.aone, by simp, ?_⟩
                  intro a ha b hb
                  simp at hb
                  subst hb
                  obtain ⟨k, hk, rfl⟩ := List.mem_map.1 ha
                  exact findA_none hno k hk
                · intro k hk
                  rcases List.mem_append.1 hk with hk | hk
                  · exact hm.asa k hk
                  · simp at hk; subst hk; exact ⟨by simp, by simp⟩
            · split
              · unfold drainS
                split
                · exact hm
                · split
                  · exact hm
                  · exact ⟨hm.num, hm.sws, hm.le, hm.one, hm.freed, hm.ra, (List.filter_sublist.map _).nodup h.aone, fun k hk => hm.asa k (List.mem_filter.1 hk).1, hm.glen, Nat.le_trans (List.length_filter_le _ _) hm.alen⟩
              · exact hm
def Ev.Ok (e : Ev) : Prop := e.a < 4294967296 ∧ e.s < 4294967296 ∧ e.num < 18446744073709551616 ∧ e.val < 4294967296 ∧ (Lit.int .i64 e.kind).wf = true ∧ (Lit.int .i64 e.hart).wf = true
theorem good_hist {ha hs : Nat} : ∀ (l : List Ev) (i : Nat) (x : Sx), x.Good i → (∀ e ∈ l, e.Ok) → (histX ha hs l i x).Good (i + l.length)
  | [], i, x, h, _ => h
  | e :: l, i, x, h, hl => by
    have := good_hist (ha := ha) (hs := hs) l (i + 1) _ (good_see (ha := ha) (hs := hs) h (hl e (by simp)).1 (hl e (by simp)).2.1) (fun e he => hl e (by simp [he]))
    rw [List.length_cons, show i + (l.length + 1) = i + 1 + l.length by omega]
    exact this
end Go.Proofs.Ytkbdoiefgmbikaa
