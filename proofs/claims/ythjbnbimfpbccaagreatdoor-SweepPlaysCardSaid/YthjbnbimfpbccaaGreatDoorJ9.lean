/-
  A sweeper and the reference's, side by side. Condition: as for a sweeper.
-/
import Derived.Test.YthjbnbimfpbccaaGreatDoorTie
import Derived.Test.YthjbnbimfpbccaaGreatDoorCards
import Derived.LaidLaws
import Derived.LaidHandle
import Derived.JoinedOf
import Derived.Stop.Joined
import Derived.RowKitTokens
import Derived.SevenTiedAt
import Derived.Test.YthjbnbimfpbccaaGreatDoorJ8










set_option linter.unusedVariables false
namespace Go.Proofs.YthjbnbimfpbccaaGreatDoor
open Go.ChangeShapes Go.WideShapes Go.ChangeAt Go.RowKit
def rsw (r : Nat) (x : Sm) (wa : Option Addr) (wc : Nat) (la : Option Addr) (lc : Nat) (ga : Option Addr) (gc : Nat) : List Value := sw3 r (ryl 4096 wa x.m.lw.length wc la x.m.lb.length lc x.m.ep x.m.un) (bkl x.m.ep (.slice ga 16 gc)) x.st x.vis
theorem rsw_s3 {x : Sm} {wa : Option Addr} {wc : Nat} {la : Option Addr} {lc : Nat} {ga : Option Addr} {gc : Nat} : S3 (ryl 4096 wa x.m.lw.length wc la x.m.lb.length lc x.m.ep x.m.un) (bkl x.m.ep (.slice ga 16 gc)) := ryl_s3
/-- Where the reference's arena lies, and its sweeper. -/
structure RId where
  r : Nat
  bb : Nat
  tb : Nat
  cb : Nat
  ct : Nat
  q : Nat
/-- The reference's sweeper of what x says, apart from what the yard s may change. -/
structure RS (w0 w : World) (i : Ids) (d : RId) (s : YS) (x : Sm) (wa : Option Addr) (wc : Nat) (la : Option Addr) (lc : Nat) (ga : Option Addr) (gc : Nat) : Prop where
  R : Ra w d.r d.bb d.tb d.cb d.ct x.bs x.f
  L : Rl w s x.m wa wc la lc
  B : Bs 0 w (.slice ga 16 gc) 16 x.F
  Q : At w d.q 72 (rsw d.r x wa wc la lc ga gc).toArray
  gt : ∀ g, (Value.slice ga 16 gc).ownBlock = some g → g ≠ d.tb
  lo : (w0.heap.size ≤ d.r ∧ w0.heap.size ≤ d.bb ∧ w0.heap.size ≤ d.tb ∧ w0.heap.size ≤ d.q) ∧ d.bb ≠ i.bg
section
variable {w0 w w' : World} {i : Ids} {d : RId} {s s' : YS} {x x' : Sm} {pv : Option Addr} {wa : Option Addr} {wc : Nat} {la : Option Addr} {lc : Nat} {ga : Option Addr} {gc : Nat}
theorem RS.fr0 (h : RS w0 w i d s x wa wc la lc ga gc) (f : Fr [] w w') : RS w0 w' i d s x wa wc la lc ga gc :=
  ⟨h.R.fr0 f, h.L.fr f, own_fr0 h.B f, h.Q.fr f (by simp), h.gt, h.lo⟩
theorem Sw.typs (h : Sw w0 w i s x pv) : ∀ k ∈ i.mut, ∃ t cs, At w k t cs ∧ (t = 109 ∨ t = 164 ∨ t = 28 ∨ (t = 5 ∧ k = i.bg)) := by
  obtain ⟨_, _, hg⟩ := Gn.words h.G
  obtain ⟨_, hag⟩ := Ar.wordsAt h.A
  obtain ⟨a1, a2, a3, a4, a5, a6, a7, cs, a8, a9, a10⟩ := id h.A
  intro k hk
  unfold Ids.mut at hk
  simp only [List.mem_cons, List.not_mem_nil, or_false] at hk
  rcases hk with rfl | rfl | rfl | rfl | rfl
  · exact ⟨_, _, h.S, .inl rfl⟩
  · exact ⟨_, _, h.G.1, .inr (.inl rfl)⟩
  · exact ⟨_, _, hg, .inr (.inr (.inl rfl))⟩
  · exact ⟨_, _, hag, .inr (.inr (.inl rfl))⟩
  · exact ⟨_, _, a8, .inr (.inr (.inr ⟨rfl, rfl⟩))⟩
/-- A block of none of the sweeper's types, or of bytes but not the arena's, is none of those that a step changes. -/
theorem Sw.notin2 (h : Sw w0 w i s x pv) {S : List Nat} (hS : ∀ k ∈ S, k ∈ i.mut ∨ k ∈ s.foot) {k : Nat} {t : TypeId} {cs : Array Value} (hk : At w k t cs) (ht : frn t = true ∨ (t = 5 ∧ k ≠ i.bg)) : k ∉ S := by
  intro hin
  rcases hS k hin with h1 | h1
  · obtain ⟨t', cs', hq, h2⟩ := h.typs k h1
    have e := (hq.inj hk).1
    rcases ht with ht | ⟨ht, hne⟩
    · obtain ⟨n1, n2, n3, n4, n5, n6, n7, n8, n9⟩ := frn_ne ht
      rcases h2 with h2 | h2 | h2 | ⟨h2, _⟩
      · exact n1 (e.symm.trans h2)
      · exact n2 (e.symm.trans h2)
      · exact n4 (e.symm.trans h2)
      · exact n7 (e.symm.trans h2)
    · rcases h2 with h2 | h2 | h2 | ⟨_, h2⟩
      · rw [e, ht] at h2; exact absurd h2 (by decide)
      · rw [e, ht] at h2; exact absurd h2 (by decide)
      · rw [e, ht] at h2; exact absurd h2 (by decide)
      · exact hne h2
  · rcases ht with ht | ⟨ht, _⟩
    · obtain ⟨n1, n2, n3, n4, n5, n6, n7, n8, n9⟩ := frn_ne ht
      exact h.Y.nfootT hk n8 n4 n9 h1
    · exact h.Y.nfootT hk (by rw [ht]; decide) (by rw [ht]; decide) (by rw [ht]; decide) h1
/-- The reference's side behind a step of the program. -/
theorem RS.prog {xr : Sm} (h : RS w0 w i d s xr wa wc la lc ga gc) (hw : Sw w0 w i s x pv) {S : List Nat} (f : Fr S w w') (hS : ∀ k ∈ S, k ∈ i.mut ∨ k ∈ s.foot) (hf : ∀ k ∈ s'.foot, k ∈ s.foot ∨ w.heap.size ≤ k) : RS w0 w' i d s' xr wa wc la lc ga gc := by
  obtain ⟨ds, hds, -⟩ := h.R.tags
  obtain ⟨cs, hcs, -⟩ := h.R.bytes
  have rows : ∀ {n : Nat} {v : Value} {l : List Value}, w.ownsRow 0 45 2 v n l → (∀ g, v.ownBlock = some g → g ∉ s.foot) → w'.ownsRow 0 45 2 v n l ∧ ∀ g, v.ownBlock = some g → g ∉ s'.foot := fun ho hn => by
    refine ⟨own_fr ho f (fun g hg hk => ?_), fun g hg hk => ?_⟩
    · rcases hS g hk with h1 | h1
      · obtain ⟨t', cs', hq, h2⟩ := hw.typs g h1
        refine own_ne ho hq ?_ g hg rfl
        rcases h2 with h2 | h2 | h2 | ⟨h2, _⟩ <;> (rw [h2]; decide)
      · exact hn g hg h1
    · rcases hf g hk with h1 | h1
      · exact hn g hg h1
      · have := (ho.lt g hg).2; omega
  have l1 := rows h.L.ow h.L.fw
  have l2 := rows h.L.ol h.L.fl
  refine ⟨h.R.fr f (hw.notin2 hS h.R.at_ (.inl (by decide))) (hw.notin2 hS hcs (.inr ⟨rfl, h.lo.2⟩)) (hw.notin2 hS hds (.inl (by decide))), ⟨l1.1, l2.1, l1.2, l2.2⟩, ?_, h.Q.fr f (hw.notin2 hS h.Q (.inl (by decide))), h.gt, h.lo⟩
  refine own_fr h.B f (fun g hg hk => ?_)
  rcases hS g hk with h1 | h1
  · obtain ⟨t', cs', hq, h2⟩ := hw.typs g h1
    refine own_ne h.B hq ?_ g hg rfl
    rcases h2 with h2 | h2 | h2 | ⟨h2, _⟩ <;> (rw [h2]; decide)
  · obtain ⟨t, cs, hq⟩ := own_atR h.B g hg
    rcases h.B.2 with ⟨e, _⟩ | ⟨g', c', cur, e, _, hgg, _⟩
    · rw [e] at hg; simp [Value.ownBlock] at hg
    · rw [e] at hg
      simp [Value.ownBlock] at hg
      subst hg
      exact hw.Y.nfootT (show At w g' 4 cur from hgg) (by decide) (by decide) (by decide) h1
/-- The sweeper behind a step of the reference. -/
theorem Sw.refd (h : Sw w0 w i s x pv) {S : List Nat} (f : Fr S w w') (hS : ∀ k ∈ S, w0.heap.size ≤ k ∧ ∃ t cs, At w k t cs ∧ (frn t = true ∨ (t = 5 ∧ k ≠ i.bg))) : Sw w0 w' i s x pv := by
  obtain ⟨⟨_, hgm⟩, _, hgw⟩ := Gn.words h.G
  obtain ⟨a1, a2, a3, a4, a5, a6, ⟨b1, b2, b3, c, cs', b4, b5, b6, b7⟩, cs, a8, a9, a10⟩ := id h.A
  have no : ∀ k t cs, At w k t cs → frn t = false → (t = 5 → k = i.bg) → k ∉ S := fun k t cs hk ht hb hin => by
    obtain ⟨_, t', cs', hq, h2⟩ := hS k hin
    have e := (hq.inj hk).1
    rcases h2 with h2 | ⟨h2, h3⟩
    · rw [e, ht] at h2; cases h2
    · exact h3 (hb (e.symm.trans h2))
  refine ⟨⟨h.S.fr f (no _ _ _ h.S (by decide) (fun e => absurd e (by decide))), ?_, h.G.fr f (no _ _ _ h.G.1 (by decide) (fun e => absurd e (by decide))) (no _ _ _ hgm (by decide) (fun e => absurd e (by decide))) (no _ _ _ hgw (by decide) (fun e => absurd e (by decide))),
    h.A.fr f (no _ _ _ a6 (by decide) (fun e => absurd e (by decide))) (no _ _ _ b5 (by decide) (fun e => absurd e (by decide))) (no _ _ _ b6 (by decide) (fun e => absurd e (by decide))) (no _ _ _ a8 (by decide) (fun _ => rfl)), h.Y.offY (S := S) (fun k hk => ?_) f, h.T, h.d, h.o, h.hi, h.n⟩, h.un, h.z⟩
  · rcases h.P with h1 | ⟨pp, pq, pg, n, Fp, h1, h2, h3⟩
    · exact .inl h1
    · obtain ⟨⟨_, k1⟩, ⟨_, k2⟩, ⟨_, k3⟩⟩ := Pt.blocks h2
      exact .inr ⟨pp, pq, pg, n, Fp, h1, h2.fr f (no _ _ _ k1 (by decide) (fun e => absurd e (by decide))) (no _ _ _ k2 (by decide) (fun e => absurd e (by decide))) (no _ _ _ k3 (by decide) (fun e => absurd e (by decide))), h3⟩
  · obtain ⟨q0, t, cs, hq, h2⟩ := hS k hk
    refine ⟨⟨t, cs, hq, ?_⟩, q0⟩
    rcases h2 with ht | ⟨ht, _⟩
    · obtain ⟨n1, n2, n3, n4, n5, n6, n7, n8, n9⟩ := frn_ne ht
      exact ⟨n8, n5, n3, n9, fun e => absurd e n4⟩
    · rw [ht]
      exact ⟨by decide, by decide, by decide, by decide, fun e => absurd e (by decide)⟩
end
/-- What holds of both, in plain words. -/
structure Pp (k : Nat) (x : Sm) : Prop where
  len : x.bs.length = 4096
  st : x.st ≤ 2
  n : x.m.n = 256
  un : x.m.un = decide (x.st ≠ 0)
  z : x.st = 0 → cnt x.F 16 = 0
  ep : x.m.ep ≤ k
  vis : x.vis + cnt x.F 16 ≤ 16 * x.m.ep
  dw : Dj x.m.lw
  db : Dj x.m.lb
  hs : x.st ≠ 0 → x.hs = hasP 256 (cov x.m.lb)
section
variable {k : Nat} {x : Sm} (h : Pp k x)
include h
theorem Pp.next : Pp (k + 1) x := ⟨h.len, h.st, h.n, h.un, h.z, by have := h.ep; omega, h.vis, h.dw, h.db, h.hs⟩
theorem Pp.storec (a : Nat) (c : Cp) : Pp k { x with bs := scL x.bs a c, f := scF x.bs x.f a c } := ⟨(scL_len _ _ _).trans h.len, h.st, h.n, h.un, h.z, h.ep, h.vis, h.dw, h.db, h.hs⟩
theorem Pp.free (hw : Good x.m.n x.m.lw) (a r : Nat) : Pp k { x with m := mFree x.m a r } := by
  by_cases hB : frB x.m a r = true
  · have e : mFree x.m a r = { x.m with lw := put x.m.lw (a, r) } := by unfold mFree; rw [hB, if_pos rfl]
    rw [e]
    unfold frB at hB
    simp only [Bool.and_eq_true, decide_eq_true_eq, Bool.not_eq_true', Bool.or_eq_false_iff] at hB
    obtain ⟨⟨h1, h2, h3, h4⟩, h5, h6⟩ := hB
    exact ⟨h.len, h.st, h.n, h.un, h.z, h.ep, h.vis, dj_put h.dw hw a r h1 h2 h3 h5, h.db, h.hs⟩
  · have e : mFree x.m a r = x.m := by unfold mFree; rw [if_neg hB]
    rw [e]
    exact h
theorem Pp.begin (h0 : x.st = 0) : Pp (k + 1) { x with st := 1, m := mBegin x.m, F := fstF 16, hs := hasP 256 (cov x.m.lw) } := by
  have hc := cnt_fst 16 16 (Nat.le_refl _)
  have hu : x.m.un = false := by rw [h.un, h0]; rfl
  have e : mBegin x.m = { x.m with ep := x.m.ep + 1, un := true, lw := [], lb := x.m.lw } := by unfold mBegin; rw [hu, if_neg (by simp)]
  rw [e]
  exact ⟨h.len, by show 1 ≤ 2; omega, h.n, rfl, (fun e => by cases e), by have := h.ep; dsimp only; omega, by have := h.vis; dsimp only; omega, dj_nil, h.dw, fun _ => rfl⟩
theorem Pp.go (h1 : x.st = 1) : Pp k { x with st := 2 } := ⟨h.len, by show 2 ≤ 2; omega, h.n, by rw [h.un, h1]; rfl, (fun e => by cases e), h.ep, h.vis, h.dw, h.db, fun _ => h.hs (by omega)⟩
theorem Pp.visit (h2 : x.st = 2) {P : Nat} (hP : P < 16) (hF : x.F P = true) : Pp k { x with vis := x.vis + 1, F := upd x.F P false, f := pgT x.bs x.hs x.f (tgP x.bs.length x.f P) } := by
  have hcl := cnt_clr x.F P hF 16
  rw [if_pos hP] at hcl
  exact ⟨h.len, h.st, h.n, h.un, (fun e => by dsimp only at e; omega), h.ep, by have := h.vis; dsimp only; omega, h.dw, h.db, h.hs⟩
theorem Pp.stop (h2 : x.st = 2) (hc : cnt x.F 16 = 0) : Pp k { x with st := 0, m := mEnd x.m } := by
  have hu : x.m.un = true := by rw [h.un, h2]; rfl
  have e : mEnd x.m = { x.m with un := false, lb := [] } := by unfold mEnd; rw [hu, if_pos rfl]
  rw [e]
  exact ⟨h.len, by show 0 ≤ 2; omega, h.n, rfl, fun _ => hc, h.ep, h.vis, h.dw, dj_nil, (fun e => absurd rfl e)⟩
end
end Go.Proofs.YthjbnbimfpbccaaGreatDoor
/-
  Steps of a sweeper and of the reference's, whatever the state. Condition: as for a sweeper; some forty steps.
-/










set_option linter.unusedVariables false
namespace Go.Proofs.YthjbnbimfpbccaaGreatDoor
open Go.ChangeShapes Go.WideShapes Go.ChangeAt Go.RowKit
/-- The reference's sweeper without the block that holds it. -/
structure RH (w0 w : World) (i : Ids) (d : RId) (s : YS) (x : Sm) (wa : Option Addr) (wc : Nat) (la : Option Addr) (lc : Nat) (ga : Option Addr) (gc : Nat) : Prop where
  R : Ra w d.r d.bb d.tb d.cb d.ct x.bs x.f
  L : Rl w s x.m wa wc la lc
  B : Bs 0 w (.slice ga 16 gc) 16 x.F
  gt : ∀ g, (Value.slice ga 16 gc).ownBlock = some g → g ≠ d.tb
  lo : (w0.heap.size ≤ d.r ∧ w0.heap.size ≤ d.bb ∧ w0.heap.size ≤ d.tb ∧ w0.heap.size ≤ d.q) ∧ d.bb ≠ i.bg
/-- Blocks but those of bytes and of truths stay. -/
structure Kr (w w' : World) : Prop where
  keep : ∀ k t cs, t ≠ 4 → t ≠ 5 → At w k t cs → At w' k t cs
  size : w.heap.size ≤ w'.heap.size
/-- A step of the reference leaves the sweeper. -/
structure Rs (w0 w w' : World) (i : Ids) (s : YS) : Prop where
  kr : Kr w w'
  sw : ∀ xs pv, Sw w0 w i s xs pv → Sw w0 w' i s xs pv
/-- A step of the program leaves the reference's. -/
structure Ps (w0 w w' : World) (i : Ids) (s s' : YS) : Prop where
  kp : Kp w w'
  rs : ∀ d xr wa wc la lc ga gc, RS w0 w i d s xr wa wc la lc ga gc → RS w0 w' i d s' xr wa wc la lc ga gc
theorem Kr.of0 {w w' : World} (f : Fr [] w w') : Kr w w' := ⟨fun _ _ _ _ _ h => h.fr f (by simp), f.size⟩
theorem Kr.kp {w w' : World} (h : Kr w w') : True := trivial
theorem own_rows {w w' : World} {b n : Nat} {v : Value} {l : List Value} (h : w.ownsRow b 45 2 v n l) (f : Fr [] w w') : w'.ownsRow b 45 2 v n l := own_fr0 h f
def begB (x : Sm) : Bool := decide (x.st = 0)
def begX (x : Sm) : Sm := if begB x = true then { x with st := 1, m := mBegin x.m, F := fstF 16, hs := hasP 256 (cov x.m.lw) } else x
def begN (x : Sm) : Nat := if begB x = true then x.m.ep + 1 else 0
def goB (x : Sm) : Bool := decide (x.st = 1)
def goX (x : Sm) : Sm := if goB x = true then { x with st := 2 } else x
def visB (x : Sm) (page : Int) : Bool := decide (x.st = 2) && (inR page 16 && x.F page.toNat)
def atP (x : Sm) (P : Nat) : Sm := { x with vis := x.vis + 1, F := upd x.F P false, f := pgT x.bs x.hs x.f (tgP x.bs.length x.f P) }
def visX (x : Sm) (page : Int) : Sm := if visB x page = true then atP x page.toNat else x
def pagB (x : Sm) : Bool := decide (x.st = 2) && nxtB x.F 16
def pagN (x : Sm) : Int := if pagB x = true then nxtP x.F 16 else 0
def pagX (x : Sm) : Sm := if pagB x = true then atP x (nxtP x.F 16).toNat else x
def endB (x : Sm) : Bool := decide (x.st = 2 ∧ cnt x.F 16 = 0)
def endX (x : Sm) : Sm := if endB x = true then { x with st := 0, m := mEnd x.m } else x
def endL (x : Sm) : List (Nat × Nat) := if endB x = true then x.m.lb else []
section
variable {w0 w w' : World} {i : Ids} {d : RId} {s s' : YS} {x x' : Sm} {pv : Option Addr} {wa : Option Addr} {wc : Nat} {la : Option Addr} {lc : Nat} {ga : Option Addr} {gc : Nat} {k : Nat}
theorem RS.half (h : RS w0 w i d s x wa wc la lc ga gc) : RH w0 w i d s x wa wc la lc ga gc := ⟨h.R, h.L, h.B, h.gt, h.lo⟩
theorem RH.full (h : RH w0 w i d s x wa wc la lc ga gc) (hQ : At w d.q 72 (rsw d.r x wa wc la lc ga gc).toArray) : RS w0 w i d s x wa wc la lc ga gc := ⟨h.R, h.L, h.B, hQ, h.gt, h.lo⟩
theorem RH.fr0 (h : RH w0 w i d s x wa wc la lc ga gc) (f : Fr [] w w') : RH w0 w' i d s x wa wc la lc ga gc := ⟨h.R.fr0 f, h.L.fr f, own_fr0 h.B f, h.gt, h.lo⟩
/-- The block that holds it is stored. -/
theorem RH.put (h : RH w0 w i d s x wa wc la lc ga gc) {cs : Array Value} (hq : At w d.q 72 cs) (f : Fr [d.q] w w') (hQ : At w' d.q 72 (rsw d.r x wa wc la lc ga gc).toArray) : RS w0 w' i d s x wa wc la lc ga gc := by
  obtain ⟨ds, hds, -⟩ := h.R.tags
  obtain ⟨es, hes, -⟩ := h.R.bytes
  have ha := h.R.at_
  refine ⟨h.R.fr f (by simpa using ha.diff hq (by decide)) (by simpa using hes.diff hq (by decide)) (by simpa using hds.diff hq (by decide)), h.L.apart f (fun k hk => ?_), own_apartT h.B f (fun k hk => ?_), hQ, h.gt, h.lo⟩
  · simp only [List.mem_singleton] at hk; subst hk; exact ⟨_, _, hq, by decide⟩
  · simp only [List.mem_singleton] at hk; subst hk; exact ⟨_, _, hq, by decide⟩
theorem Sw.putq (h : Sw w0 w i s x pv) {q : Nat} {cs : Array Value} (hq : At w q 72 cs) (h0 : w0.heap.size ≤ q) (f : Fr [q] w w') : Sw w0 w' i s x pv := h.far hq (by decide) h0 f
theorem RS.rs (h : RS w0 w i d s x wa wc la lc ga gc) {S : List Nat} (f : Fr S w w') (hS : ∀ k ∈ S, k = d.bb ∨ k = d.tb) : Rs w0 w w' i s := by
  obtain ⟨ds, hds, -⟩ := h.R.tags
  obtain ⟨es, hes, -⟩ := h.R.bytes
  refine ⟨⟨fun k t cs h1 h2 hk => hk.fr f (fun hin => ?_), f.size⟩, fun xs pv hw => hw.refd f (fun k hk => ?_)⟩
  · rcases hS k hin with rfl | rfl
    · exact h2 (hk.inj hes).1
    · exact h1 (hk.inj hds).1
  · rcases hS k hk with rfl | rfl
    · exact ⟨h.lo.1.2.1, _, _, hes, .inr ⟨rfl, h.lo.2⟩⟩
    · exact ⟨h.lo.1.2.2.1, _, _, hds, .inl (by decide)⟩
theorem Rs.of0 (f : Fr [] w w') : Rs w0 w w' i s := ⟨.of0 f, fun _ _ h => h.fr0 f⟩
theorem Ps.of0 (f : Fr [] w w') : Ps w0 w w' i s s := ⟨.of0 f, fun _ _ _ _ _ _ _ _ h => h.fr0 f⟩
theorem Sw.ps (h : Sw w0 w i s x pv) {S : List Nat} (f : Fr S w w') (hS : ∀ k ∈ S, k ∈ i.mut ∨ k ∈ s.foot) (hf : ∀ k ∈ s'.foot, k ∈ s.foot ∨ w.heap.size ≤ k) : Ps w0 w w' i s s' := ⟨h.kp f hS, fun _ _ _ _ _ _ _ _ hr => hr.prog h f hS hf⟩
end
section
variable (w0 w : World) (i : Ids) (s : YS) (x : Sm) (pv : Option Addr) (k : Nat) (h : Sw w0 w i s x pv) (p : Pp k x) (hk : k ≤ 100)
include h
theorem sp_storec (a : Nat) (ha : a < 4294967296) (c : Cp) (hc : c.Ok) : Calls Tryz.prog 18 #[.pointer (some ⟨i.ap, 0, none⟩), .int .u32 a, .agg c.cells] w fun e w' => e = .returned (.bool (whB x.bs.length a)) ∧ Sw w0 w' i s { x with bs := scL x.bs a c, f := scF x.bs x.f a c } pv ∧ Ps w0 w w' i s s :=
  (swstorec_any w0 w i s x pv h a ha c hc).mono fun e w' ⟨h1, h2, h3⟩ => ⟨h1, h2, h.ps h3 (fun k hk => .inl (by unfold Ids.mut; simp only [List.mem_cons, List.not_mem_nil, or_false] at hk ⊢; rcases hk with rfl | rfl <;> simp)) (fun _ h => .inl h)⟩
theorem sp_free (a r : Nat) (ha : a < 4294967296) (hr : r < 4294967296) : Calls Tryz.prog 17 #[.pointer (some ⟨i.y, 0, none⟩), .agg #[.int .u32 a, .int .u32 r]] w fun e w' => e = .returned (.bool (frB x.m a r)) ∧ ∃ s', Sw w0 w' i s' { x with m := mFree x.m a r } pv ∧ Ps w0 w w' i s s' :=
  (swfree_any w0 w i s x pv h a r ha hr).mono fun e w' ⟨h1, s', h2, h3, h4⟩ => ⟨h1, s', h2, h.ps h3 (fun k hk => .inr hk) h4⟩
theorem sp_go : Calls Tryz.prog 10 #[.pointer (some ⟨i.sp, 0, none⟩)] w fun e w' => e = .returned (.bool (goB x)) ∧ Sw w0 w' i s (goX x) pv ∧ Ps w0 w w' i s s := by
  unfold goX goB
  by_cases h1 : x.st = 1
  · rw [decide_eq_true h1, if_pos rfl]
    exact (swgo_yes w0 w i s x pv h h1).mono fun e w' ⟨h1, h2, h3⟩ => ⟨h1, h2, h.ps h3 (fun k hk => .inl (by unfold Ids.mut; revert hk; simp; intro e; exact .inl e)) (fun _ h => .inl h)⟩
  · rw [decide_eq_false h1, if_neg (by simp)]
    exact (swgo_no w0 w i s x pv h h1).mono fun e w' ⟨h1, h2⟩ => ⟨h1, h2 ▸ h, h2 ▸ .of0 (Fr.refl _ _)⟩
include p hk
theorem sp_begin : Calls Tryz.prog 8 #[.pointer (some ⟨i.sp, 0, none⟩)] w fun e w' => e = .returned (.tuple #[.int .u64 (begN x : Nat), .bool (begB x)]) ∧ ∃ s' pv', Sw w0 w' i s' (begX x) pv' ∧ Ps w0 w w' i s s' := by
  unfold begX begN begB
  have := p.ep
  by_cases h1 : x.st = 0
  · rw [decide_eq_true h1, if_pos rfl, if_pos rfl]
    exact (swbegin_yes w0 w i s x pv h h1 (by omega)).mono fun e w' ⟨h1, s', pv', h2, h3, h4⟩ => ⟨h1, s', pv', h2, h.ps h3 (fun k hk => by
      simp only [List.mem_cons] at hk
      rcases hk with rfl | rfl | rfl | hk
      · exact .inl (by unfold Ids.mut; simp)
      · exact .inl (by unfold Ids.mut; simp)
      · exact .inl (by unfold Ids.mut; simp)
      · exact .inr hk) h4⟩
  · rw [decide_eq_false h1, if_neg (by simp), if_neg (by simp)]
    exact (swbegin_no w0 w i s x pv h h1).mono fun e w' ⟨h1, h2⟩ => ⟨h1, s, pv, h.fr0 h2, .of0 h2⟩
theorem sp_visit (page : Int) : Calls Tryz.prog 12 #[.pointer (some ⟨i.sp, 0, none⟩), .int .i64 page] w fun e w' => e = .returned (.bool (visB x page)) ∧ Sw w0 w' i s (visX x page) pv ∧ Ps w0 w w' i s s := by
  unfold visX
  have := p.ep
  have := p.vis
  by_cases hb : visB x page = true
  · rw [hb, if_pos rfl]
    unfold visB at hb
    simp only [Bool.and_eq_true, decide_eq_true_eq] at hb
    obtain ⟨h1, hr, hF⟩ := hb
    unfold inR at hr
    simp at hr
    obtain ⟨P, rfl⟩ := Int.eq_ofNat_of_zero_le (show 0 ≤ page by omega)
    rw [Int.toNat_natCast] at hF ⊢
    exact (swvisit_yes w0 w i s x pv h P (by omega) hF h1 (by omega)).mono fun e w' ⟨h1, h2, h3⟩ => ⟨h1, h2, h.ps h3 (fun k hk => .inl (by unfold Ids.mut; simp only [List.mem_cons, List.not_mem_nil, or_false] at hk ⊢; rcases hk with rfl | rfl | rfl <;> simp)) (fun _ h => .inl h)⟩
  · rw [if_neg hb]
    have hb' : visB x page = false := by simpa using hb
    rw [hb']
    unfold visB at hb'
    by_cases h2 : x.st = 2
    · rw [decide_eq_true h2, Bool.true_and] at hb'
      exact (swvisit_no w0 w i s x pv h page h2 hb').mono fun e w' ⟨h1, h2⟩ => ⟨h1, h.fr0 h2, .of0 h2⟩
    · exact (swvisit_out w0 w i s x pv h page h2).mono fun e w' ⟨h1, h2⟩ => ⟨h1, h.fr0 h2, .of0 h2⟩
theorem sp_page : Calls Tryz.prog 14 #[.pointer (some ⟨i.sp, 0, none⟩)] w fun e w' => e = .returned (.tuple #[.int .i64 (pagN x), .bool (pagB x)]) ∧ Sw w0 w' i s (pagX x) pv ∧ Ps w0 w w' i s s := by
  unfold pagX pagN
  have := p.ep
  have := p.vis
  by_cases hb : pagB x = true
  · rw [hb, if_pos rfl, if_pos rfl]
    unfold pagB at hb
    simp only [Bool.and_eq_true, decide_eq_true_eq] at hb
    obtain ⟨h1, hB⟩ := hb
    rcases nxt_case x.F 16 with ⟨e, _⟩ | ⟨P, hP, hF, hN, _⟩
    · rw [e] at hB; cases hB
    · rw [hN, Int.toNat_natCast]
      exact (swpage_yes w0 w i s x pv h P hP hF hB hN h1 (by omega)).mono fun e w' ⟨h1, h2, h3⟩ => ⟨h1, h2, h.ps h3 (fun k hk => .inl (by unfold Ids.mut; simp only [List.mem_cons, List.not_mem_nil, or_false] at hk ⊢; rcases hk with rfl | rfl | rfl <;> simp)) (fun _ h => .inl h)⟩
  · rw [if_neg hb, if_neg hb]
    have hb' : pagB x = false := by simpa using hb
    rw [hb']
    unfold pagB at hb'
    by_cases h2 : x.st = 2
    · rw [decide_eq_true h2, Bool.true_and] at hb'
      exact (swpage_no w0 w i s x pv h h2 hb').mono fun e w' ⟨h1, h2⟩ => ⟨h1, h.fr0 h2, .of0 h2⟩
    · exact (swpage_out w0 w i s x pv h h2).mono fun e w' ⟨h1, h2⟩ => ⟨h1, h2 ▸ h, h2 ▸ .of0 (Fr.refl _ _)⟩
omit hk p in
theorem sp_end : Calls Tryz.prog 13 #[.pointer (some ⟨i.sp, 0, none⟩)] w fun e w' => ∃ v s', e = .returned (.tuple #[v, .bool (endB x)]) ∧ w'.ownsRow 0 45 2 v (endL x).length (rgv (endL x)) ∧ Sw w0 w' i s' (endX x) pv ∧ Ps w0 w w' i s s' := by
  unfold endX endL
  by_cases hb : endB x = true
  · rw [hb, if_pos rfl, if_pos rfl]
    unfold endB at hb
    have hb := of_decide_eq_true hb
    exact (swend_yes w0 w i s x pv h hb.1 hb.2).mono fun e w' ⟨v, s', h1, h2, h3, h4, h5, h6⟩ => ⟨v, s', h1, h2, h4, h.ps h5 (fun k hk => by
      rcases List.mem_cons.1 hk with rfl | hk
      · exact .inl (by unfold Ids.mut; simp)
      · exact .inr hk) h6⟩
  · rw [if_neg hb, if_neg hb]
    have hb' : endB x = false := by simpa using hb
    rw [hb']
    unfold endB at hb'
    have hn := of_decide_eq_false hb'
    have hnil : ∀ W : World, W.ownsRow 0 45 2 (.slice none 0 0) ([] : List (Nat × Nat)).length (rgv []) := fun W => World.ownsRow_nil _ _ _ _
    by_cases h2 : x.st = 2
    · exact (swend_no w0 w i s x pv h h2 (fun e => hn ⟨h2, e⟩)).mono fun e w' ⟨h1, h2⟩ => ⟨_, s, h1, hnil _, h.fr0 h2, .of0 h2⟩
    · exact (swend_out w0 w i s x pv h h2).mono fun e w' ⟨h1, h2⟩ => ⟨_, s, h1, hnil _, h.fr0 h2, .of0 h2⟩
end
end Go.Proofs.YthjbnbimfpbccaaGreatDoor
/-
  Steps of the reference's sweeper, whatever the state. Condition: as for a sweeper; some forty steps.
-/










set_option linter.unusedVariables false
namespace Go.Proofs.YthjbnbimfpbccaaGreatDoor
open Go.ChangeShapes Go.WideShapes Go.ChangeAt Go.RowKit
theorem Sw.good {w0 w : World} {i : Ids} {s : YS} {x : Sm} {pv : Option Addr} (h : Sw w0 w i s x pv) : Good 256 x.m.lw ∧ Good 256 x.m.lb := by
  have h1 := h.Y.yd.bt.good
  have h3 := h.Y.yd.wt.good
  have h2 := h.Y.ms
  have h4 := h.n
  rw [← h4, ← h2]
  exact ⟨h3, h1⟩
theorem Sw.foot_lt {w0 w : World} {i : Ids} {s : YS} {x : Sm} {pv : Option Addr} (h : Sw w0 w i s x pv) : ∀ k ∈ s.foot, k < w.heap.size := foot_ltY h.Y
section
variable (w0 w : World) (i : Ids) (d : RId) (s : YS) (x : Sm) (wa : Option Addr) (wc : Nat) (la : Option Addr) (lc : Nat) (ga : Option Addr) (gc : Nat) (k : Nat) (h : RS w0 w i d s x wa wc la lc ga gc)
include h
theorem RS.gtb {w' : World} {ga' : Option Addr} {gc' : Nat} {F : Nat → Bool} (hB : Bs w.heap.size w' (.slice ga' 16 gc') 16 F) : ∀ g, (Value.slice ga' 16 gc').ownBlock = some g → g ≠ d.tb := fun g hg e => by
  have h1 := own_geR hB g hg
  have h2 := h.R.lt.2.2
  omega
theorem RS.typs : ∃ es ds, At w d.bb 5 es ∧ At w d.tb 4 ds := by
  obtain ⟨ds, hds, -⟩ := h.R.tags
  obtain ⟨es, hes, -⟩ := h.R.bytes
  exact ⟨_, _, hes, hds⟩
theorem pr_storec (a : Nat) (ha : a < 4294967296) (c : Cp) (hc : c.Ok) : Calls Tryz.prog 28 #[.pointer (some ⟨d.r, 0, none⟩), .int .u32 a, .agg c.cells] w fun e w' => e = .returned (.bool (whB x.bs.length a)) ∧ RS w0 w' i d s { x with bs := scL x.bs a c, f := scF x.bs x.f a c } wa wc la lc ga gc ∧ Rs w0 w w' i s := by
  refine (rstorec_any w _ _ _ _ _ _ _ h.R a ha c hc).mono ?_
  rintro e w' ⟨rfl, h2, hf⟩
  obtain ⟨es, ds, hes, hds⟩ := RS.typs _ _ _ _ _ _ _ _ _ _ _ _ h
  have hS : ∀ k ∈ [d.bb, d.tb], k = d.bb ∨ k = d.tb := fun k hk => by simpa using hk
  refine ⟨rfl, ⟨h2, h.L.apart hf (fun k hk => ?_), own_fr h.B hf (fun g hg hk => ?_), h.Q.fr hf (fun hk => ?_), h.gt, h.lo⟩, h.rs hf hS⟩
  · rcases hS k hk with rfl | rfl
    · exact ⟨_, _, hes, by decide⟩
    · exact ⟨_, _, hds, by decide⟩
  · rcases hS g hk with rfl | rfl
    · exact own_ne h.B hes (by decide) _ hg rfl
    · exact h.gt _ hg rfl
  · rcases hS _ hk with e | e
    · exact h.Q.diff hes (by decide) e
    · exact h.Q.diff hds (by decide) e
theorem pr_free (hs : ∀ k ∈ s.foot, k < w.heap.size) (hn : x.m.n = 256) (hg : Good 256 x.m.lw ∧ Good 256 x.m.lb) (a r : Nat) (ha : a < 4294967296) (hr : r < 4294967296) : Calls Tryz.prog 29 #[.agg (ryl 4096 wa x.m.lw.length wc la x.m.lb.length lc x.m.ep x.m.un).toArray, .agg #[.int .u32 a, .int .u32 r]] w fun e w' => ∃ wa' wc' la' lc', e = .returned (.tuple #[.agg (ryl 4096 wa' (mFree x.m a r).lw.length wc' la' (mFree x.m a r).lb.length lc' (mFree x.m a r).ep (mFree x.m a r).un).toArray, .bool (frB x.m a r)]) ∧ RH w0 w' i d s { x with m := mFree x.m a r } wa' wc' la' lc' ga gc ∧ Fr [] w w' := by
  rw [ryl_is]
  refine Calls.mono (rfree_m w 256 x.m s wa la wc lc h.L hs (by omega) hn (hn ▸ hg.1) (hn ▸ hg.2) a r ha hr) ?_
  rintro e w' ⟨wa', wc', la', lc', rfl, hl, hf⟩
  exact ⟨wa', wc', la', lc', rfl, ⟨h.R.fr0 hf, hl, own_fr0 h.B hf, h.gt, h.lo⟩, hf⟩
theorem pr_go : Calls Tryz.prog 31 #[.agg (rsw d.r x wa wc la lc ga gc).toArray] w fun e w' => e = .returned (.tuple #[.agg (rsw d.r (goX x) wa wc la lc ga gc).toArray, .bool (goB x)]) ∧ RH w0 w' i d s (goX x) wa wc la lc ga gc ∧ Fr [] w w' := by
  unfold goX goB
  by_cases h1 : x.st = 1
  · rw [decide_eq_true h1, if_pos rfl]
    exact (r19go_yes w d.r _ _ x.st x.vis rsw_s3 h1).mono fun e w' ⟨he, hf⟩ => ⟨he, ⟨h.R.fr0 hf, h.L.fr hf, own_fr0 h.B hf, h.gt, h.lo⟩, hf⟩
  · rw [decide_eq_false h1, if_neg (by simp)]
    exact (r19go_no w d.r _ _ x.st x.vis rsw_s3 h1).mono fun e w' ⟨he, hf⟩ => ⟨he, h.half.fr0 hf, hf⟩
theorem pr_begin (p : Pp k x) (hk : k ≤ 100) : Calls Tryz.prog 30 #[.agg (rsw d.r x wa wc la lc ga gc).toArray] w fun e w' => ∃ wa' wc' la' lc' ga' gc', e = .returned (.tuple #[.agg (rsw d.r (begX x) wa' wc' la' lc' ga' gc').toArray, .int .u64 (begN x : Nat), .bool (begB x)]) ∧ RH w0 w' i d s (begX x) wa' wc' la' lc' ga' gc' ∧ Fr [] w w' := by
  unfold begX begN begB
  have hep := p.ep
  by_cases h1 : x.st = 0
  · rw [decide_eq_true h1, if_pos rfl, if_pos rfl]
    have hu : x.m.un = false := by rw [p.un, h1]; rfl
    have e2 : (mBegin x.m).ep = x.m.ep + 1 := by unfold mBegin; rw [hu, if_neg (by simp)]
    unfold rsw
    rw [h1]
    refine (r19begin_yes w d.r x.m s wa la wc lc x.m.ep ga gc x.F x.vis h.L h.B hu (by omega) (Int.le_refl _) (p.z h1)).mono ?_
    rintro e w' ⟨wa', wc', la', lc', ga', gc', rfl, hl, hb, hf⟩
    refine ⟨wa', wc', la', lc', ga', gc', ?_, ⟨h.R.fr0 hf, hl, own_base hb (Nat.zero_le _), RS.gtb _ _ _ _ _ _ _ _ _ _ _ _ h hb, h.lo⟩, hf⟩
    dsimp only
    rw [e2]
  · rw [decide_eq_false h1, if_neg (by simp), if_neg (by simp)]
    exact (r19begin_no w d.r _ _ x.st x.vis rsw_s3 h1).mono fun e w' ⟨he, hf⟩ => ⟨wa, wc, la, lc, ga, gc, he, h.half.fr0 hf, hf⟩
theorem RS.atp {w' : World} {P : Nat} {ga' : Option Addr} {gc' : Nat} (hr : Ra w' d.r d.bb d.tb d.cb d.ct x.bs (pgT x.bs x.hs x.f (tgP x.bs.length x.f P))) (hb : Bs w.heap.size w' (.slice ga' 16 gc') 16 (upd x.F P false)) (hf : Fr [d.tb] w w') :
    RH w0 w' i d s (atP x P) wa wc la lc ga' gc' ∧ At w' d.q 72 (rsw d.r x wa wc la lc ga gc).toArray ∧ Rs w0 w w' i s := by
  obtain ⟨es, ds, hes, hds⟩ := RS.typs _ _ _ _ _ _ _ _ _ _ _ _ h
  refine ⟨⟨hr, h.L.apart hf (fun k hk => ?_), own_base hb (Nat.zero_le _), RS.gtb _ _ _ _ _ _ _ _ _ _ _ _ h hb, h.lo⟩, h.Q.fr hf (by simpa using h.Q.diff hds (by decide)), h.rs hf (fun k hk => .inr (by simpa using hk))⟩
  simp only [List.mem_singleton] at hk
  subst hk
  exact ⟨_, _, hds, by decide⟩
theorem pr_visit (p : Pp k x) (hk : k ≤ 100) (hg : Good 256 x.m.lb) (page : Int) : Calls Tryz.prog 32 #[.agg (rsw d.r x wa wc la lc ga gc).toArray, .int .i64 page] w fun e w' => ∃ ga' gc', e = .returned (.tuple #[.agg (rsw d.r (visX x page) wa wc la lc ga' gc').toArray, .bool (visB x page)]) ∧ RH w0 w' i d s (visX x page) wa wc la lc ga' gc' ∧ At w' d.q 72 (rsw d.r x wa wc la lc ga gc).toArray ∧ Rs w0 w w' i s := by
  unfold visX
  have h3 := p.ep
  have h4 := p.vis
  by_cases hb : visB x page = true
  · rw [hb, if_pos rfl]
    unfold visB at hb
    simp only [Bool.and_eq_true, decide_eq_true_eq] at hb
    obtain ⟨h1, hr, hF⟩ := hb
    unfold inR at hr
    simp at hr
    obtain ⟨P, rfl⟩ := Int.eq_ofNat_of_zero_le (show 0 ≤ page by omega)
    rw [Int.toNat_natCast] at hF ⊢
    have hhs := p.hs (by omega)
    have e0 : rsw d.r x wa wc la lc ga gc = sw3 d.r (ryl 4096 wa x.m.lw.length wc la x.m.lb.length lc x.m.ep x.m.un) (bkl x.m.ep (.slice ga 16 gc)) 2 x.vis := by unfold rsw; rw [h1]
    rw [e0]
    refine (r19visit_yes w d.r d.bb d.tb d.cb d.ct x.bs x.f wa x.m.lw.length wc la lc x.m.ep x.m.un x.m.lb x.m.ep ga gc x.F x.vis h.R (by rw [p.len]) h.L.ol hg p.db h.B h.gt P (by omega) hF (by omega)).mono ?_
    rintro e w' ⟨ga', gc', rfl, h5, h6, h7⟩
    rw [← hhs] at h5
    obtain ⟨k1, k2, k3⟩ := RS.atp _ _ _ _ _ _ _ _ _ _ _ _ h h5 h6 h7
    rw [e0] at k2
    refine ⟨ga', gc', ?_, k1, k2, k3⟩
    unfold rsw atP
    dsimp only
    rw [h1]
  · rw [if_neg hb]
    have hb' : visB x page = false := by simpa using hb
    rw [hb']
    unfold visB at hb'
    refine (r19visit_no w d.r _ x.m.ep ga gc x.F x.st x.vis rsw_s3 h.B page ?_).mono fun e w' ⟨he, hf⟩ => ⟨ga, gc, he, h.half.fr0 hf, h.Q.fr hf (by simp), .of0 hf⟩
    by_cases h2 : x.st = 2
    · rw [decide_eq_true h2, Bool.true_and] at hb'
      exact .inr hb'
    · exact .inl h2
theorem pr_page (p : Pp k x) (hk : k ≤ 100) (hg : Good 256 x.m.lb) : Calls Tryz.prog 33 #[.agg (rsw d.r x wa wc la lc ga gc).toArray] w fun e w' => ∃ ga' gc', e = .returned (.tuple #[.agg (rsw d.r (pagX x) wa wc la lc ga' gc').toArray, .int .i64 (pagN x), .bool (pagB x)]) ∧ RH w0 w' i d s (pagX x) wa wc la lc ga' gc' ∧ At w' d.q 72 (rsw d.r x wa wc la lc ga gc).toArray ∧ Rs w0 w w' i s := by
  unfold pagX pagN
  have h3 := p.ep
  have h4 := p.vis
  by_cases hb : pagB x = true
  · rw [hb, if_pos rfl, if_pos rfl]
    unfold pagB at hb
    simp only [Bool.and_eq_true, decide_eq_true_eq] at hb
    obtain ⟨h1, hB⟩ := hb
    rcases nxt_case x.F 16 with ⟨e, _⟩ | ⟨P, hP, hF, hN, _⟩
    · rw [e] at hB; cases hB
    · rw [hN, Int.toNat_natCast]
      have hhs := p.hs (by omega)
      have e0 : rsw d.r x wa wc la lc ga gc = sw3 d.r (ryl 4096 wa x.m.lw.length wc la x.m.lb.length lc x.m.ep x.m.un) (bkl x.m.ep (.slice ga 16 gc)) 2 x.vis := by unfold rsw; rw [h1]
      rw [e0]
      refine (r19page_yes w d.r d.bb d.tb d.cb d.ct x.bs x.f wa x.m.lw.length wc la lc x.m.ep x.m.un x.m.lb x.m.ep ga gc x.F x.vis h.R (by rw [p.len]) h.L.ol hg p.db h.B h.gt P hP hF hB hN (by omega)).mono ?_
      rintro e w' ⟨ga', gc', rfl, h5, h6, h7⟩
      rw [← hhs] at h5
      obtain ⟨k1, k2, k3⟩ := RS.atp _ _ _ _ _ _ _ _ _ _ _ _ h h5 h6 h7
      rw [e0] at k2
      refine ⟨ga', gc', ?_, k1, k2, k3⟩
      unfold rsw atP
      dsimp only
      rw [h1]
  · rw [if_neg hb, if_neg hb]
    have hb' : pagB x = false := by simpa using hb
    rw [hb']
    unfold pagB at hb'
    refine (r19page_no w d.r _ x.m.ep ga gc x.F x.st x.vis rsw_s3 h.B ?_).mono fun e w' ⟨he, hf⟩ => ⟨ga, gc, he, h.half.fr0 hf, h.Q.fr hf (by simp), .of0 hf⟩
    by_cases h2 : x.st = 2
    · rw [decide_eq_true h2, Bool.true_and] at hb'
      exact .inr hb'
    · exact .inl h2
theorem pr_end (p : Pp k x) : Calls Tryz.prog 34 #[.agg (rsw d.r x wa wc la lc ga gc).toArray] w fun e w' => ∃ wa' wc' la' lc' v, e = .returned (.tuple #[.agg (rsw d.r (endX x) wa' wc' la' lc' ga gc).toArray, v, .bool (endB x)]) ∧ w'.ownsRow 0 45 2 v (endL x).length (rgv (endL x)) ∧ RH w0 w' i d s (endX x) wa' wc' la' lc' ga gc ∧ Fr [] w w' := by
  unfold endX endL
  by_cases hb : endB x = true
  · rw [hb, if_pos rfl, if_pos rfl]
    unfold endB at hb
    obtain ⟨h1, hc⟩ := of_decide_eq_true hb
    have hu : x.m.un = true := by rw [p.un, h1]; rfl
    have e2 : (mEnd x.m).ep = x.m.ep := by unfold mEnd; rw [hu, if_pos rfl]
    unfold rsw
    rw [h1]
    refine (r19end_yes w d.r x.m s wa la wc lc x.m.ep ga gc x.F x.vis h.L h.B hu hc).mono ?_
    rintro e w' ⟨wa', wc', la', lc', v, rfl, ho, hl, hf⟩
    refine ⟨wa', wc', la', lc', v, ?_, ho, ⟨h.R.fr0 hf, hl, own_fr0 h.B hf, h.gt, h.lo⟩, hf⟩
    dsimp only
    rw [e2]
  · rw [if_neg hb, if_neg hb]
    have hb' : endB x = false := by simpa using hb
    rw [hb']
    unfold endB at hb'
    have hn := of_decide_eq_false hb'
    refine (r19end_no w d.r _ x.m.ep ga gc x.F x.st x.vis rsw_s3 h.B ?_).mono fun e w' ⟨he, hf⟩ => ⟨wa, wc, la, lc, _, he, World.ownsRow_nil _ _ _ _, h.half.fr0 hf, hf⟩
    by_cases h2 : x.st = 2
    · exact .inr fun e => hn ⟨h2, e⟩
    · exact .inl h2
end
section
variable {k : Nat} {x : Sm} (p : Pp k x)
include p
theorem Pp.begX : Pp (k + 1) (begX x) := by
  unfold Go.Proofs.YthjbnbimfpbccaaGreatDoor.begX begB
  by_cases h1 : x.st = 0
  · rw [decide_eq_true h1, if_pos rfl]; exact p.begin h1
  · rw [decide_eq_false h1, if_neg (by simp)]; exact p.next
theorem Pp.goX : Pp k (goX x) := by
  unfold Go.Proofs.YthjbnbimfpbccaaGreatDoor.goX goB
  by_cases h1 : x.st = 1
  · rw [decide_eq_true h1, if_pos rfl]; exact p.go h1
  · rw [decide_eq_false h1, if_neg (by simp)]; exact p
theorem Pp.visX (page : Int) : Pp k (visX x page) := by
  unfold Go.Proofs.YthjbnbimfpbccaaGreatDoor.visX
  by_cases hb : visB x page = true
  · rw [if_pos hb]
    unfold visB at hb
    simp only [Bool.and_eq_true, decide_eq_true_eq] at hb
    obtain ⟨h1, hr, hF⟩ := hb
    unfold inR at hr
    simp at hr
    exact p.visit h1 (by omega) hF
  · rw [if_neg hb]; exact p
theorem Pp.pagX : Pp k (pagX x) := by
  unfold Go.Proofs.YthjbnbimfpbccaaGreatDoor.pagX
  by_cases hb : pagB x = true
  · rw [if_pos hb]
    unfold pagB at hb
    simp only [Bool.and_eq_true, decide_eq_true_eq] at hb
    obtain ⟨h1, hB⟩ := hb
    rcases nxt_case x.F 16 with ⟨e, _⟩ | ⟨P, hP, hF, hN, _⟩
    · rw [e] at hB; cases hB
    · rw [hN, Int.toNat_natCast]
      exact p.visit h1 hP hF
  · rw [if_neg hb]; exact p
theorem Pp.endX : Pp k (endX x) := by
  unfold Go.Proofs.YthjbnbimfpbccaaGreatDoor.endX
  by_cases hb : endB x = true
  · rw [if_pos hb]
    unfold endB at hb
    obtain ⟨h1, hc⟩ := of_decide_eq_true hb
    exact p.stop h1 hc
  · rw [if_neg hb]; exact p
end
end Go.Proofs.YthjbnbimfpbccaaGreatDoor
/-
  The small check of layer 19's statements. Condition: the table of math/bits is as the library lays it.
-/










set_option linter.unusedVariables false
namespace Go.Proofs.YthjbnbimfpbccaaGreatDoor
open Go.ChangeShapes Go.WideShapes Go.ChangeAt Go.RowKit
def wkC : Cp := mkC 512 64 1
theorem wk_ok : wkC.Ok ∧ wkC.rs < 16777216 ∧ soundB wkC = true := by
  refine ⟨⟨?_, ?_, ?_, ?_, ?_, ?_, ?_⟩, ?_, ?_⟩ <;> decide +kernel
theorem wk_of : ofC 512 64 = wkC ∧ wkC.base = 512 ∧ wkC.v = true := by
  obtain ⟨h1, h2, h3, _⟩ := ofC_is 512 64 (by omega) (by omega) (by omega)
  rw [h1] at h2 h3
  exact ⟨h1, h2, h3⟩
def wkH : Int → Bool := hasP 256 (cov [(512, 64)])
theorem wk_has : wkH 512 = true := by decide +kernel
theorem wk_free : frB ⟨256, 0, false, [], []⟩ 512 64 = true ∧ mFree ⟨256, 0, false, [], []⟩ 512 64 = ⟨256, 0, false, [(512, 64)], []⟩ := ⟨by decide, rfl⟩
theorem wk_begin : mBegin ⟨256, 0, false, [(512, 64)], []⟩ = ⟨256, 1, true, [], [(512, 64)]⟩ := rfl
theorem wk_stale (bs : List Nat) (i : Nat) (h : sub bs (16 * i) 16 = bytesC wkC) : sU bs wkH (16 * i) = true := by
  unfold sU
  rw [h, (ofB_self wkC wk_ok.1 wk_ok.2.1 wk_of.2.2 wk_ok.2.2).1]
  unfold stB
  rw [wk_of.2.2, wk_of.2.1, wk_has]
  rfl
set_option maxHeartbeats 1000000 in
set_option maxRecDepth 100000 in
theorem works_any (w : World) (hT : Tab w) : Calls Tryz.prog 16 #[] w fun r w' => r = .returned (.bool true) ∧ Fr [] w w' := by
  have CB := Lib.hid (begun_any w hT)
  obtain ⟨B, hB⟩ : ∃ B, List.replicate 4096 0 = B := ⟨_, rfl⟩
  rw [hB] at CB
  have hBl : B.length = 4096 := by rw [← hB]; simp
  have HB4 := Lib.hid (show whB B.length 0 = true by rw [hBl]; rfl)
  have CO := Lib.hid fun W => (show Calls Tryz.prog 19 #[.int .u32 512, .int .u32 64] W fun r w' => r = .returned (.agg wkC.cells) ∧ Fr [] W w' from by
    have h := of_anyC W 512 64 (by omega) (by omega)
    rw [wk_of.1] at h
    exact h)
  have l1 : (scL B (16 * 0) wkC).length = 4096 := by rw [scL_len, hBl]
  have a1 := scL_sub B 0 wkC hBl (by omega)
  have g1 : scF B (fun _ => false) (16 * 0) wkC = tgs [0] := by
    rw [tgs_nil]; exact scF_tgs B [] 0 wkC hBl (by omega) (by rw [wk_of.2.2, wk_ok.2.2]; rfl)
  rw [Nat.mul_zero] at l1 a1 g1
  obtain ⟨bs, e1⟩ : ∃ x, scL B 0 wkC = x := ⟨_, rfl⟩
  rw [e1] at l1 a1
  have ST := Lib.hid (wk_stale bs 0 a1)
  have L1 := Lib.hid l1
  have CS := Lib.hid fun W W0 i (h : On W0 W i ⟨0, 0, fun _ => false, ⟨256, 0, false, [(512, 64)], []⟩, B, fun _ => false, nohs⟩) => (show Calls Tryz.prog 18 #[.pointer (some ⟨i.ap, 0, none⟩), .int .u32 0, .agg wkC.cells] W fun e w' => e = .returned (.bool true) ∧ On W0 w' i ⟨0, 0, fun _ => false, ⟨256, 0, false, [(512, 64)], []⟩, bs, tgs [0], nohs⟩ from by
    have h := on_storec h 0 (by omega) wkC wk_ok.1
    dsimp only at h
    rw [HB4.out, e1, g1] at h
    exact h.mono fun e w' ⟨h1, h2, _⟩ => ⟨h1, h2⟩)
  have CF := Lib.hid fun W W0 i (h : On W0 W i ⟨0, 0, fun _ => false, ⟨256, 0, false, [], []⟩, B, fun _ => false, nohs⟩) => (show Calls Tryz.prog 17 #[.pointer (some ⟨i.y, 0, none⟩), .agg #[.int .u32 512, .int .u32 64]] W fun e w' => e = .returned (.bool true) ∧ On W0 w' i ⟨0, 0, fun _ => false, ⟨256, 0, false, [(512, 64)], []⟩, B, fun _ => false, nohs⟩ from by
    have h := on_free h 512 64 (by omega) (by omega)
    dsimp only at h
    rw [wk_free.1, wk_free.2] at h
    exact h.mono fun e w' ⟨h1, h2, _⟩ => ⟨h1, h2⟩)
  have CG := Lib.hid fun W W0 i (h : On W0 W i ⟨0, 0, fun _ => false, ⟨256, 0, false, [(512, 64)], []⟩, bs, tgs [0], nohs⟩) => (show Calls Tryz.prog 8 #[.pointer (some ⟨i.sp, 0, none⟩)] W fun r w' => r = .returned (.tuple #[.int .u64 1, .bool true]) ∧ On W0 w' i ⟨1, 0, frmF 0, ⟨256, 1, true, [], [(512, 64)]⟩, bs, tgs [0], wkH⟩ from by
    have h := on_begin_yes h rfl (by show 0 < 1000000; omega)
    dsimp only at h
    rw [wk_begin, frm_zero] at h
    exact h.mono fun e w' ⟨h1, h2, _⟩ => ⟨h1, h2⟩)
  have CP := Lib.hid fun W W0 i k f (hk : k < 16) (h : On W0 W i ⟨2, k, frmF k, ⟨256, 1, true, [], [(512, 64)]⟩, bs, f, wkH⟩) => (show Calls Tryz.prog 14 #[.pointer (some ⟨i.sp, 0, none⟩)] W fun r w' => r = .returned (.tuple #[.int .i64 k, .bool true]) ∧ On W0 w' i ⟨2, k + 1, frmF (k + 1), ⟨256, 1, true, [], [(512, 64)]⟩, bs, pgT bs wkH f (tgP 4096 f k), wkH⟩ from by
    have h := on_page_yes h k hk (frm_at k k (Nat.le_refl _) hk) (frm_nxt k hk).2 (frm_nxt k hk).1 rfl (by dsimp only; omega)
    dsimp only at h
    rw [frm_upd, L1.out] at h
    exact h.mono fun e w' ⟨h1, h2, _⟩ => ⟨h1, h2⟩)
  have CE := Lib.hid fun W W0 i f (h : On W0 W i ⟨2, 16, frmF 16, ⟨256, 1, true, [], [(512, 64)]⟩, bs, f, wkH⟩) => (show Calls Tryz.prog 13 #[.pointer (some ⟨i.sp, 0, none⟩)] W fun r w' => ∃ v, r = .returned (.tuple #[v, .bool true]) ∧ w'.ownsRow 0 45 2 v 1 (rgv [(512, 64)]) ∧ On W0 w' i ⟨0, 16, frmF 16, ⟨256, 1, false, [], []⟩, bs, f, wkH⟩ from by
    have h := on_end_yes h rfl frm_end.1
    exact h.mono fun e w' ⟨v, h1, h2, h3, _⟩ => ⟨v, h1, h2, h3⟩)
  have CL := Lib.hid fun W W0 i x f (h0 : f 0 = false) (h : On W0 W i ⟨0, 16, frmF 16, x, bs, f, wkH⟩) => (show Calls Tryz.prog 40 #[.pointer (some ⟨i.ap, 0, none⟩), .int .u32 0] W fun r w' => r = .returned (.tuple #[.agg (ofB (sub bs 0 16) false).cells, .bool true]) ∧ Fr [] W w' from by
    have h := on_loadc h 0 (by omega)
    have hw : whB bs.length 0 = true := by rw [L1.out]; rfl
    unfold ldC at h
    dsimp only at h
    rw [hw, if_pos rfl, show 0 / 16 = 0 from rfl, h0] at h
    exact h)
  obtain ⟨E, hE⟩ : ∃ E, ofB (sub bs 0 16) false = E := ⟨_, rfl⟩
  have HEV := Lib.hid (show E.v = false by rw [← hE]; rfl)
  rw [hE] at CL
  have HIC := Lib.hid (show ∀ c : Cp, (Tryz.prog.info? 49).map (·.size) = some c.cells.size from fun c => by kernel_rfl)
  have HCA := Lib.hid cellz_all
  clear hB hBl e1 l1 a1 g1 hE hT
  go_enter Tryz.func16, Tryz.ntmps16
  go_wp2_with fail
  refine CB.out.mono ?_
  rintro e w1 ⟨i, rfl, hon, hia⟩
  have O1 := Lib.hid hon
  have sp0 := Lib.hid (show True from trivial)
  clear hon CB
  go_wp2_with fail
  refine (CF.out _ _ _ O1.out).mono ?_
  rintro e w2 ⟨rfl, hon⟩
  have O2 := Lib.hid hon
  clear hon CF O1
  go_wp2_with fail
  refine (CO.out _).mono ?_
  rintro e w3 ⟨rfl, hf3⟩
  have O3 := Lib.hid (O2.out.fr0 hf3)
  clear hf3 O2
  go_wp2_with fail
  refine (CS.out _ _ _ O3.out).mono ?_
  rintro e w4 ⟨rfl, hon⟩
  have O4 := Lib.hid hon
  clear hon CS O3
  go_wp2_with fail
  refine (CG.out _ _ _ O4.out).mono ?_
  rintro e w5 ⟨rfl, hon⟩
  have O5 := Lib.hid hon
  clear hon CG O4
  go_wp2_with fail
  refine (on_go_yes O5.out rfl).mono ?_
  rintro e w6 ⟨rfl, hon, -⟩
  have O6 := Lib.hid (show On w w6 i ⟨2, 0, frmF 0, ⟨256, 1, true, [], [(512, 64)]⟩, bs, tgs [0], wkH⟩ from hon)
  clear hon O5
  go_wp2_with fail
  go_loopw [6] (fun v wr => ∃ (k : Nat) (f : Nat → Bool), k ≤ 16 ∧ v = .int .i64 k ∧ On w wr i ⟨2, k, frmF k, ⟨256, 1, true, [], [(512, 64)]⟩, bs, f, wkH⟩ ∧ (k = 0 ∧ f = tgs [0] ∨ 1 ≤ k ∧ f 0 = false)) (fun v _ => 16 - (intOf v).toNat)
  case atStart => exact ⟨0, _, by omega, rfl, O6.out, .inl ⟨rfl, rfl⟩⟩
  case round =>
    clear O6
    obtain ⟨k, f, hk, rfl, hon, hf⟩ := hrel
    have O7 := Lib.hid hon
    have HF := Lib.hid hf
    clear hon hf
    by_cases h1 : k < 16
    · go_wp2_with fail
      refine (CP.out _ _ _ k f h1 O7.out).mono ?_
      rintro e w8 ⟨rfl, hon⟩
      have O8 := Lib.hid hon
      clear hon O7
      go_wp2_with fail
      go_roundw
      case rel =>
        refine ⟨k + 1, _, by omega, by go_num, O8.out, .inr ⟨by omega, ?_⟩⟩
        rw [pgT_at bs wkH f k 0 h1]
        rcases HF.out with ⟨rfl, rfl⟩ | ⟨_, h2⟩
        · rw [show 16 * 0 = 0 from rfl, ST.out]; rfl
        · rw [h2]; rfl
      case measure => simp [intOf]; omega
    · obtain rfl : k = 16 := by omega
      have hf0 : f 0 = false := by
        rcases HF.out with ⟨h, _⟩ | ⟨_, h⟩
        · omega
        · exact h
      go_wp2_with fail
      refine (CE.out _ _ _ f O7.out).mono ?_
      rintro e w8 ⟨v, rfl, hr, hon⟩
      have O8 := Lib.hid hon
      rcases rows_open hr with ⟨_, h0⟩ | ⟨g, cap, cur, rfl, -, hA, g1, g2, g3, g4⟩
      · omega
      have q0 := rows_at (n := 1) (cap := cap) hA g4 0 0 (.int .u32 512) rfl
      have q1 := rows_at (n := 1) (cap := cap) hA g4 0 1 (.int .u32 64) rfl
      simp only [Nat.zero_add, Nat.add_zero] at q0 q1
      have Q0 := Lib.hid q0
      have Q1 := Lib.hid q1
      have hgl := hA.lt
      clear hon hr hA g1 g2 g3 g4 q0 q1 O7
      go_wp2_with fail
      refine (CL.out _ _ _ _ f hf0 O8.out).mono ?_
      rintro e w9 ⟨rfl, hf9⟩
      have F9 := Lib.hid hf9
      have hev := HEV.out
      have EQ := fun W => rg_eq 512 64 512 64 W
      simp only [decide_true, Bool.and_true] at EQ
      have hg9 : g < w9.heap.size := Nat.lt_of_lt_of_le hgl hf9.size
      clear hf9
      go_upto_region 15 with (refine wpList_store_all rfl 49 (.tmp 11) (.tmp 72) rfl _ E.cells rfl rfl 49 noC.cells (At.nw rfl) (HIC.out E) rfl (HCA.out E) ?_; intro w10 hA10 hF10)
      have hga : Fr [] w9 (w9.alloc (.cells noC.cells 49)) := (by repeat (first | exact Fr.refl _ _ | assumption | refine Fr.trans0 ?_ (by assumption) | refine Fr.drewN ?_ _ | refine Fr.alloc ?_ _ | refine Fr.drew ?_))
      have q0 := (hF10.cell (a := ⟨g, 0, none⟩) (by simp; omega) (by simp; omega)).trans ((hga.cell (a := ⟨g, 0, none⟩) hg9 (by simp)).trans ((F9.out.cell (a := ⟨g, 0, none⟩) hgl (by simp)).trans Q0.out))
      have q1 := (hF10.cell (a := ⟨g, 1, none⟩) (by simp; omega) (by simp; omega)).trans ((hga.cell (a := ⟨g, 1, none⟩) hg9 (by simp)).trans ((F9.out.cell (a := ⟨g, 1, none⟩) hgl (by simp)).trans Q1.out))
      have F10 := Lib.hid ((O8.out.f.trans0 F9.out).trans ((hga.more (T := [w9.heap.size]) (by simp)).trans hF10 (fun k hk => .inl hk)) (fun k hk => .inr (by have := O8.out.f.size; have := F9.out.size; simp at hk; omega)))
      have ce := hA10.cell 7
      rw [show E.cells[7]? = some (.bool E.v) from rfl, hev] at ce
      go_wp2_with fail
      go_ret
      exact ⟨rfl, F10.out⟩
end Go.Proofs.YthjbnbimfpbccaaGreatDoor
/-
  The table of math/bits that the row lists: a world that holds it, and what a walk has of the row's premise. No condition.
-/

set_option linter.unusedVariables false
namespace Go.Proofs.YthjbnbimfpbccaaGreatDoor
open Go.ChangeShapes Go.WideShapes Go.ChangeAt Go.RowKit
def laidL : List (String × DataW Unit) := [("math/bits.deBruijn64tab", Rows.laid_math_bits_deBruijn64tab)]
theorem tabNamed : Tryz.prog.globalNamed "math/bits.deBruijn64tab" = some 0 := by kernel_rfl
theorem tabType : (Tryz.prog.globals[0]?).map (·.type) = some 228 := by kernel_rfl
theorem tabDatum : (Rows.laid_math_bits_deBruijn64tab : DataW Unit) = .agg (Lib.deBruijn64tab.map fun x => .lit (.int .u8 (x : Nat))) := by kernel_rfl
theorem drop_take_at' {cs : List Value} {o k i : Nat} {v : Value} (h : ((cs.drop o).take k)[i]? = some v) : cs[o + i]? = some v := by
  rw [List.getElem?_take] at h
  split at h
  · rw [List.getElem?_drop] at h; exact h
  · cases h
theorem tab_of_laid {W : World} (h : laidMetH Tryz.prog laidL W) : Tab W := by
  have h' : laidMet Tryz.prog laidL W := h
  obtain ⟨ps, ⟨g, t, cs, fuel, p, q, hg, ht, hv, htr, _, _⟩, _, _⟩ := h'
  obtain rfl := Option.some.inj (tabNamed.symm.trans hg)
  obtain rfl := Option.some.inj (tabType.symm.trans ht)
  obtain ⟨xs, m, _, hx, hlen, hl, hel⟩ := DataW.trod_array Tryz.underlying228 htr
  have hx1 : (.agg (xs.map (·.1)) : DataW Unit) = .agg (Lib.deBruijn64tab.map fun x => .lit (.int .u8 (x : Nat))) := by
    rw [← tabDatum]; exact (congrArg (·.1) hx).symm
  injection hx1 with hx1
  intro j hj
  have hcell : W.cell? ⟨0, j, none⟩ = cs[j]? := by simpa using World.var?_cell tabNamed hv j
  have h1 := hel j (by omega)
  have hxj : xs[j]? = some (xs[j]'(by omega)) := List.getElem?_eq_getElem (by omega)
  rw [hxj, show Tryz.prog.cellsOf 5 = 1 by kernel_rfl, Nat.mul_one] at h1
  obtain ⟨z, hz, hd, _⟩ := DataW.trod_int Tryz.underlying5 h1
  have hcj : cs[j]? = some (.int .u8 z) := by
    have := drop_take_at' (i := 0) (v := .int .u8 z) (by rw [hz]; rfl)
    rw [Nat.add_zero, Array.getElem?_toList] at this
    exact this
  have h2 := congrArg (·[j]?) hx1
  simp only [List.getElem?_map, hxj, Option.map_some] at h2
  rw [hd] at h2
  have h3 : Lib.deBruijn64tab[j]? = some (Lib.deBruijn64tab.getD j 0) := by
    rw [List.getD_eq_getElem?_getD]
    have : j < Lib.deBruijn64tab.length := hj
    rw [List.getElem?_eq_getElem this]; rfl
  rw [h3] at h2
  simp at h2
  rw [hcell, hcj, h2, List.getD_eq_getElem?_getD]
/-- A world that meets the premise. -/
noncomputable def laidWorld (os : Os) : World :=
  let w0 := World.holding Tryz.prog os ⟨#[], #[], []⟩
  { w0 with heap := w0.heap.modify 0 fun
      | .cells _ t frozen => .cells (Lib.deBruijn64tab.map fun x => Value.int .u8 (x : Nat)).toArray t frozen
      | o => o }
theorem laidWorld_met (os : Os) (args : Array Value) : laidMetH Tryz.prog laidL ((laidWorld os).forCall (fun _ _ => 0) ⟨#[], args, []⟩).memory :=
  laidMet_of_run' (l := laidL) 8 (by kernel_rfl) (by kernel_rfl)
end Go.Proofs.YthjbnbimfpbccaaGreatDoor
