/-
  A sweeper by what it holds alone: every function of a sweeper told in these words; blocks of foreign types are kept. Condition: as for a sweeper.
-/
import Derived.Deep.RegionHeld3
import Derived.Deep.CutBlock
import Derived.Deep.DeepCutAuto
import Derived.Laws.EntriesVeiled
import Derived.Laws.Rows
import Derived.Test.YthjbnbimfpbccaaGreatDoorJ13









set_option linter.unusedVariables false
namespace Go.Proofs.YthjbnbimfpbccaaGreatDoor
open Go.ChangeShapes Go.WideShapes Go.ChangeAt Go.RowKit
def On (w0 w : World) (i : Ids) (x : Sm) : Prop := ∃ s pv, Sw w0 w i s x pv
/-- A type that no part of a sweeper has. -/
def frn (t : TypeId) : Bool := !(t == 109 || t == 164 || t == 179 || t == 28 || t == 204 || t == 127 || t == 5 || t == 119 || t == 45)
structure Kp (w w' : World) : Prop where
  keep : ∀ k t cs, frn t = true → At w k t cs → At w' k t cs
  size : w.heap.size ≤ w'.heap.size
theorem frn_ne {t : TypeId} (h : frn t = true) : t ≠ 109 ∧ t ≠ 164 ∧ t ≠ 179 ∧ t ≠ 28 ∧ t ≠ 204 ∧ t ≠ 127 ∧ t ≠ 5 ∧ t ≠ 119 ∧ t ≠ 45 := by
  refine ⟨?_, ?_, ?_, ?_, ?_, ?_, ?_, ?_, ?_⟩ <;> (rintro rfl; revert h; decide)
theorem Kp.of0 {w w' : World} (f : Fr [] w w') : Kp w w' := ⟨fun _ _ _ _ h => h.fr f (by simp), f.size⟩
theorem Kp.refl (w : World) : Kp w w := .of0 (Fr.refl _ _)
theorem Kp.trans {w w' w'' : World} (h : Kp w w') (h' : Kp w' w'') : Kp w w'' := ⟨fun k t cs ht hk => h'.keep k t cs ht (h.keep k t cs ht hk), Nat.le_trans h.size h'.size⟩
section
variable {w0 w w' : World} {i : Ids} {s : YS} {x : Sm} {pv : Option Addr}
theorem Sw.kp (h : Sw w0 w i s x pv) {S : List Nat} (f : Fr S w w') (hS : ∀ k ∈ S, k ∈ i.mut ∨ k ∈ s.foot) : Kp w w' := by
  refine ⟨fun k t cs ht hk => hk.fr f (fun hin => ?_), f.size⟩
  obtain ⟨n1, n2, n3, n4, n5, n6, n7, n8, n9⟩ := frn_ne ht
  rcases hS k hin with h1 | h1
  · exact h.notin (S := [k]) (fun q hq => by simp at hq; subst hq; exact h1) hk n1 n2 n4 n7 (by simp)
  · exact h.Y.nfootT hk n8 n4 n9 h1
theorem Sw.far (h : Sw w0 w i s x pv) {q : Nat} {t : TypeId} {cs : Array Value} (hq : At w q t cs) (ht : frn t = true) (q0 : w0.heap.size ≤ q) (f : Fr [q] w w') : Sw w0 w' i s x pv := by
  obtain ⟨n1, n2, n3, n4, n5, n6, n7, n8, n9⟩ := frn_ne ht
  obtain ⟨⟨_, hgm⟩, _, hgw⟩ := Gn.words h.G
  obtain ⟨a1, a2, a3, a4, a5, a6, ⟨b1, b2, b3, c, cs', b4, b5, b6, b7⟩, cs, a8, a9, a10⟩ := id h.A
  refine ⟨⟨h.S.fr f ?_, ?_, h.G.fr f ?_ ?_ ?_, h.A.fr f ?_ ?_ ?_ ?_, h.Y.offY (S := [q]) (fun k hk => ?_) f, h.T, h.d, h.o, h.hi, h.n⟩, h.un, h.z⟩
  · simpa using h.S.diff hq (Ne.symm n1)
  · rcases h.P with h1 | ⟨pp, pq, pg, n, Fp, h1, h2, h3⟩
    · exact .inl h1
    · obtain ⟨⟨_, k1⟩, ⟨_, k2⟩, ⟨_, k3⟩⟩ := Pt.blocks h2
      exact .inr ⟨pp, pq, pg, n, Fp, h1, h2.fr f (by simpa using k1.diff hq (Ne.symm n5)) (by simpa using k2.diff hq (Ne.symm n3)) (by simpa using k3.diff hq (Ne.symm n4)), h3⟩
  · simpa using h.G.1.diff hq (Ne.symm n2)
  · simpa using hgm.diff hq (Ne.symm n3)
  · simpa using hgw.diff hq (Ne.symm n4)
  · simpa using a6.diff hq (Ne.symm n6)
  · simpa using b5.diff hq (Ne.symm n3)
  · simpa using b6.diff hq (Ne.symm n4)
  · simpa using a8.diff hq (Ne.symm n7)
  · simp only [List.mem_cons, List.not_mem_nil, or_false] at hk
    subst hk
    exact ⟨⟨_, _, hq, n8, n5, n3, n9, fun e => absurd e n4⟩, q0⟩
theorem On.far (h : On w0 w i x) {q : Nat} {t : TypeId} {cs : Array Value} (hq : At w q t cs) (ht : frn t = true) (q0 : w0.heap.size ≤ q) (f : Fr [q] w w') : On w0 w' i x := by
  obtain ⟨s, pv, h⟩ := h
  exact ⟨s, pv, h.far hq ht q0 f⟩
theorem On.fr0 (h : On w0 w i x) (f : Fr [] w w') : On w0 w' i x := by
  obtain ⟨s, pv, h⟩ := h
  exact ⟨s, pv, h.fr0 f⟩
theorem On.f (h : On w0 w i x) : Fr [] w0 w := by
  obtain ⟨s, pv, h⟩ := h
  exact h.Y.f
theorem On.to {x' : Sm} (h : On w0 w i x) (e : x = x') : On w0 w i x' := e ▸ h
section
variable (h : On w0 w i x)
include h
theorem on_stop : Calls Tryz.prog 20 #[.pointer (some ⟨i.sp, 0, none⟩)] w fun r w' => r = .returned (.bool (decide (x.st = 1))) ∧ w = w' := by
  obtain ⟨s, pv, h⟩ := h
  exact swstop_any w0 w i s x pv h
theorem on_go_yes (h1 : x.st = 1) : Calls Tryz.prog 10 #[.pointer (some ⟨i.sp, 0, none⟩)] w fun r w' => r = .returned (.bool true) ∧ On w0 w' i { x with st := 2 } ∧ Kp w w' := by
  obtain ⟨s, pv, h⟩ := h
  exact (swgo_yes w0 w i s x pv h h1).mono fun e w' ⟨h1, h2, h3⟩ => ⟨h1, ⟨s, pv, h2⟩, h.kp h3 (fun k hk => .inl (by unfold Ids.mut; revert hk; simp; intro e; exact .inl e))⟩
theorem on_go_no (h1 : x.st ≠ 1) : Calls Tryz.prog 10 #[.pointer (some ⟨i.sp, 0, none⟩)] w fun r w' => r = .returned (.bool false) ∧ w = w' := by
  obtain ⟨s, pv, h⟩ := h
  exact swgo_no w0 w i s x pv h h1
theorem on_left : Calls Tryz.prog 9 #[.pointer (some ⟨i.sp, 0, none⟩)] w fun r w' => r = .returned (.int .i64 (cnt x.F 16)) ∧ w = w' := by
  obtain ⟨s, pv, h⟩ := h
  exact swleft_any w0 w i s x pv h
theorem on_vis : Calls Tryz.prog 15 #[.pointer (some ⟨i.sp, 0, none⟩)] w fun r w' => r = .returned (.int .u64 (x.vis : Nat)) ∧ w = w' := by
  obtain ⟨s, pv, h⟩ := h
  exact swvis_any w0 w i s x pv h
theorem on_old (h2 : x.st ≤ 2) (page : Int) : Calls Tryz.prog 11 #[.pointer (some ⟨i.sp, 0, none⟩), .int .i64 page] w fun r w' => r = .returned (.bool (decide (x.st ≠ 0) && (inR page 16 && x.F page.toNat))) ∧ w = w' := by
  obtain ⟨s, pv, h⟩ := h
  exact swold_any w0 w i s x pv h h2 page
theorem on_visit_out (page : Int) (h1 : x.st ≠ 2) : Calls Tryz.prog 12 #[.pointer (some ⟨i.sp, 0, none⟩), .int .i64 page] w fun r w' => r = .returned (.bool false) ∧ Fr [] w w' := by
  obtain ⟨s, pv, h⟩ := h
  exact swvisit_out w0 w i s x pv h page h1
theorem on_visit_no (page : Int) (h1 : x.st = 2) (hn : (inR page 16 && x.F page.toNat) = false) : Calls Tryz.prog 12 #[.pointer (some ⟨i.sp, 0, none⟩), .int .i64 page] w fun r w' => r = .returned (.bool false) ∧ Fr [] w w' := by
  obtain ⟨s, pv, h⟩ := h
  exact swvisit_no w0 w i s x pv h page h1 hn
theorem on_visit_yes (P : Nat) (hP : P < 16) (hF : x.F P = true) (h1 : x.st = 2) (hv : x.vis < 1000000) : Calls Tryz.prog 12 #[.pointer (some ⟨i.sp, 0, none⟩), .int .i64 P] w fun r w' => r = .returned (.bool true) ∧ On w0 w' i { x with vis := x.vis + 1, F := upd x.F P false, f := pgT x.bs x.hs x.f (tgP x.bs.length x.f P) } ∧ Kp w w' := by
  obtain ⟨s, pv, h⟩ := h
  exact (swvisit_yes w0 w i s x pv h P hP hF h1 hv).mono fun e w' ⟨h1, h2, h3⟩ => ⟨h1, ⟨s, pv, h2⟩, h.kp h3 (fun k hk => .inl (by unfold Ids.mut; simp only [List.mem_cons, List.not_mem_nil, or_false] at hk ⊢; rcases hk with rfl | rfl | rfl <;> simp))⟩
theorem on_page_out (h1 : x.st ≠ 2) : Calls Tryz.prog 14 #[.pointer (some ⟨i.sp, 0, none⟩)] w fun r w' => r = .returned (.tuple #[.int .i64 0, .bool false]) ∧ w = w' := by
  obtain ⟨s, pv, h⟩ := h
  exact swpage_out w0 w i s x pv h h1
theorem on_page_no (h1 : x.st = 2) (hn : nxtB x.F 16 = false) : Calls Tryz.prog 14 #[.pointer (some ⟨i.sp, 0, none⟩)] w fun r w' => r = .returned (.tuple #[.int .i64 0, .bool false]) ∧ Fr [] w w' := by
  obtain ⟨s, pv, h⟩ := h
  exact swpage_no w0 w i s x pv h h1 hn
theorem on_page_yes (P : Nat) (hP : P < 16) (hF : x.F P = true) (hB : nxtB x.F 16 = true) (hN : nxtP x.F 16 = P) (h1 : x.st = 2) (hv : x.vis < 1000000) : Calls Tryz.prog 14 #[.pointer (some ⟨i.sp, 0, none⟩)] w fun r w' => r = .returned (.tuple #[.int .i64 P, .bool true]) ∧ On w0 w' i { x with vis := x.vis + 1, F := upd x.F P false, f := pgT x.bs x.hs x.f (tgP x.bs.length x.f P) } ∧ Kp w w' := by
  obtain ⟨s, pv, h⟩ := h
  exact (swpage_yes w0 w i s x pv h P hP hF hB hN h1 hv).mono fun e w' ⟨h1, h2, h3⟩ => ⟨h1, ⟨s, pv, h2⟩, h.kp h3 (fun k hk => .inl (by unfold Ids.mut; simp only [List.mem_cons, List.not_mem_nil, or_false] at hk ⊢; rcases hk with rfl | rfl | rfl <;> simp))⟩
theorem on_begin_no (h1 : x.st ≠ 0) : Calls Tryz.prog 8 #[.pointer (some ⟨i.sp, 0, none⟩)] w fun r w' => r = .returned (.tuple #[.int .u64 0, .bool false]) ∧ Fr [] w w' := by
  obtain ⟨s, pv, h⟩ := h
  exact swbegin_no w0 w i s x pv h h1
theorem on_begin_yes (h1 : x.st = 0) (he : x.m.ep < 1000000) : Calls Tryz.prog 8 #[.pointer (some ⟨i.sp, 0, none⟩)] w fun r w' => r = .returned (.tuple #[.int .u64 (x.m.ep + 1 : Nat), .bool true]) ∧ On w0 w' i { x with st := 1, m := mBegin x.m, F := fstF 16, hs := hasP 256 (cov x.m.lw) } ∧ Kp w w' := by
  obtain ⟨s, pv, h⟩ := h
  exact (swbegin_yes w0 w i s x pv h h1 he).mono fun e w' ⟨h1, s', pv', h2, h3⟩ => ⟨h1, ⟨s', pv', h2⟩, h.kp h3 (fun k hk => by
    simp only [List.mem_cons] at hk
    rcases hk with rfl | rfl | rfl | hk
    · exact .inl (by unfold Ids.mut; simp)
    · exact .inl (by unfold Ids.mut; simp)
    · exact .inl (by unfold Ids.mut; simp)
    · exact .inr hk)⟩
theorem on_end_out (h1 : x.st ≠ 2) : Calls Tryz.prog 13 #[.pointer (some ⟨i.sp, 0, none⟩)] w fun r w' => r = .returned (.tuple #[.slice none 0 0, .bool false]) ∧ Fr [] w w' := by
  obtain ⟨s, pv, h⟩ := h
  exact swend_out w0 w i s x pv h h1
theorem on_end_no (h1 : x.st = 2) (hn : cnt x.F 16 ≠ 0) : Calls Tryz.prog 13 #[.pointer (some ⟨i.sp, 0, none⟩)] w fun r w' => r = .returned (.tuple #[.slice none 0 0, .bool false]) ∧ Fr [] w w' := by
  obtain ⟨s, pv, h⟩ := h
  exact swend_no w0 w i s x pv h h1 hn
theorem on_end_yes (h1 : x.st = 2) (hn : cnt x.F 16 = 0) : Calls Tryz.prog 13 #[.pointer (some ⟨i.sp, 0, none⟩)] w fun r w' => ∃ v, r = .returned (.tuple #[v, .bool true]) ∧ w'.ownsRow 0 45 2 v x.m.lb.length (rgv x.m.lb) ∧ On w0 w' i { x with st := 0, m := mEnd x.m } ∧ Kp w w' := by
  obtain ⟨s, pv, h⟩ := h
  exact (swend_yes w0 w i s x pv h h1 hn).mono fun e w' ⟨v, s', h1, h2, h3, h4, h5⟩ => ⟨v, h1, h2, ⟨s', pv, h4⟩, h.kp h5 (fun k hk => by
    rcases List.mem_cons.1 hk with rfl | hk
    · exact .inl (by unfold Ids.mut; simp)
    · exact .inr hk)⟩
theorem on_free (a r : Nat) (ha : a < 4294967296) (hr : r < 4294967296) : Calls Tryz.prog 17 #[.pointer (some ⟨i.y, 0, none⟩), .agg #[.int .u32 a, .int .u32 r]] w fun e w' => e = .returned (.bool (frB x.m a r)) ∧ On w0 w' i { x with m := mFree x.m a r } ∧ Kp w w' := by
  obtain ⟨s, pv, h⟩ := h
  exact (swfree_any w0 w i s x pv h a r ha hr).mono fun e w' ⟨h1, s', h2, h3⟩ => ⟨h1, ⟨s', pv, h2⟩, h.kp h3 (fun k hk => .inr hk)⟩
theorem on_storec (a : Nat) (ha : a < 4294967296) (c : Cp) (hc : c.Ok) : Calls Tryz.prog 18 #[.pointer (some ⟨i.ap, 0, none⟩), .int .u32 a, .agg c.cells] w fun e w' => e = .returned (.bool (whB x.bs.length a)) ∧ On w0 w' i { x with bs := scL x.bs a c, f := scF x.bs x.f a c } ∧ Kp w w' := by
  obtain ⟨s, pv, h⟩ := h
  exact (swstorec_any w0 w i s x pv h a ha c hc).mono fun e w' ⟨h1, h2, h3⟩ => ⟨h1, ⟨s, pv, h2⟩, h.kp h3 (fun k hk => .inl (by unfold Ids.mut; simp only [List.mem_cons, List.not_mem_nil, or_false] at hk ⊢; rcases hk with rfl | rfl <;> simp))⟩
theorem on_loadc (a : Nat) (ha : a < 4294967296) : Calls Tryz.prog 40 #[.pointer (some ⟨i.ap, 0, none⟩), .int .u32 a] w fun r w' => r = .returned (.tuple #[.agg (ldC x.bs x.f a).cells, .bool (whB x.bs.length a)]) ∧ Fr [] w w' := by
  obtain ⟨s, pv, h⟩ := h
  exact aloadc_b w _ _ _ _ _ _ _ h.A a ha
theorem on_store (a : Nat) (ha : a < 4294967296) (k : Int) (v : Nat) (hv : v < 4294967296) : Calls Tryz.prog 41 #[.pointer (some ⟨i.ap, 0, none⟩), .int .u32 a, .int .i64 k, .int .u32 v] w fun e w' => e = .returned (.bool (okE x.bs.length a k)) ∧ On w0 w' i { x with bs := stL x.bs a k v, f := stT x.bs x.f a k v } ∧ Kp w w' := by
  obtain ⟨s, pv, h⟩ := h
  refine (astore_b w _ _ _ _ _ _ _ h.A a ha k v hv).mono ?_
  rintro e w' ⟨rfl, h2, hf⟩
  have hm : ∀ k ∈ [i.ag, i.bg], k ∈ i.mut := by unfold Ids.mut; simp
  have ne := h.ne
  exact ⟨rfl, ⟨s, pv, h.mk2 hm hf _ (h.S.fr hf (by simp; omega)) (h.gens hm hf (by simp; omega) (by simp; omega)) h2 rfl rfl h.un h.z⟩, h.kp hf (fun k hk => .inl (hm k hk))⟩
theorem on_tagged (page : Int) : Calls Tryz.prog 21 #[.pointer (some ⟨i.ap, 0, none⟩), .int .i64 page] w fun e w' => ∃ v, e = .returned v ∧ w'.ownsRow w.heap.size 43 1 v (tgP x.bs.length x.f page).length (u32s (tgP x.bs.length x.f page)) ∧ Fr [] w w' := by
  obtain ⟨s, pv, h⟩ := h
  exact atagged_any w _ _ _ _ _ _ _ h.A page
end
end
end Go.Proofs.YthjbnbimfpbccaaGreatDoor
/-
  A new sweeper. Condition: an arena of sixteen pages, a yard of as many bytes.
-/









set_option linter.unusedVariables false
namespace Go.Proofs.YthjbnbimfpbccaaGreatDoor
open Go.ChangeShapes Go.WideShapes Go.ChangeAt Go.RowKit
set_option maxRecDepth 100000 in
theorem swnew_any (w0 w : World) (ap q ag bg cap y : Nat) (bs : List Nat) (f : Nat → Bool) (m : MS) (s : YS) (hA : Ar w ap q ag bg cap bs f) (hl : bs.length = 4096) (hY : Yw w0 w y m s) (hT : Tab w0) (hn : m.n = 256) (hu : m.un = false) (he : m.ep = 0) (hag : w0.heap.size ≤ ag) (hbg : w0.heap.size ≤ bg) (ho : ag ≠ s.c ∧ ag ≠ s.c') :
    Calls Tryz.prog 22 #[.pointer (some ⟨ap, 0, none⟩), .pointer (some ⟨y, 0, none⟩)] w fun r w' => ∃ sp gp p g, r = .returned (.tuple #[.pointer (some ⟨sp, 0, none⟩), .int .i64 0]) ∧ Sw w0 w' ⟨sp, gp, p, g, ap, q, ag, bg, cap, y⟩ s ⟨0, 0, fun _ => false, m, bs, f, nohs⟩ none ∧ Fr [] w w' := by
  have CS := Lib.hid (asize_any _ _ _ _ _ _ _ _ hA)
  rw [hl] at CS
  have CG := Lib.hid (gnew_any 16 w (by omega))
  have HA := Lib.hid hA
  have HY := Lib.hid hY
  have HE := Lib.hid he
  have HU := Lib.hid hu
  have ls := Lib.hid (show s.c < w.heap.size ∧ s.c' < w.heap.size from ⟨hY.yd.wt.lt.2.2, hY.yd.bt.lt.2.2⟩)
  have hws := hY.f.size
  clear hA hl hY he hu
  go_enter Tryz.func22, Tryz.ntmps22
  go_wp2_with fail
  refine CS.out.mono ?_
  rintro e w' ⟨rfl, rfl⟩
  go_wp2_with fail
  refine CG.out.mono ?_
  rintro e w2 ⟨gp, p, g, rfl, hg, i1, i2, i3, hf2⟩
  have G2 := Lib.hid hg
  have F2 := Lib.hid hf2
  have s2 := hf2.size
  clear hg hf2 CG CS
  go_wp2_with fail
  go_ret2
  have hla := HA.out.lt
  have f3 : Fr [] w2 (w2.alloc (.cells #[.pointer (some ⟨gp, 0, none⟩), .pointer (some ⟨ap, 0, none⟩), .pointer (some ⟨y, 0, none⟩), .pointer none, .int .i64 0, .int .u64 0] 109)) := (Fr.refl _ _).alloc _
  have hz : cnt (fun _ => false) 16 = 0 := by decide
  exact ⟨w2.heap.size, gp, p, g, rfl, ⟨⟨At.new w2 _ _, .inl ⟨rfl, rfl⟩, by have := G2.out.fr f3 (by simp) (by simp) (by simp); rw [HE.out]; exact this, (HA.out.fr0 F2.out).fr0 f3, (HY.out.fr F2.out).fr f3, hT, ⟨by dsimp only; omega, by dsimp only; omega⟩, ⟨⟨by have := ls.out; dsimp only; omega, by have := ls.out; dsimp only; omega⟩, ho⟩, by unfold Ids.mut; simp; omega, hn⟩, by rw [HU.out]; rfl, fun _ => hz⟩, F2.out.trans0 f3⟩
end Go.Proofs.YthjbnbimfpbccaaGreatDoor
/-
  Lists of capabilities in a block; what scan.clean does to one of them, and to all. Condition: numbers in their types' ranges.
-/




set_option linter.unusedVariables false
namespace Go.Proofs.YthjbnbimfpbccaaGreatDoor
open Go.ChangeShapes Go.WideShapes Go.ChangeAt Go.RowKit
/-! ### capabilities one behind the other -/
def cat (l : List Cp) : List Value := l.flatMap Cp.l
theorem Cp.l_len (c : Cp) : c.l.length = 8 := rfl
theorem cat_len (l : List Cp) : (cat l).length = l.length * 8 := by
  unfold cat
  induction l with
  | nil => rfl
  | cons c l ih => rw [List.flatMap_cons, List.length_append, ih, Cp.l_len, List.length_cons]; omega
theorem cat_get : ∀ (l : List Cp) (i j : Nat) (c : Cp), l[i]? = some c → j < 8 → (cat l)[i * 8 + j]? = c.l[j]?
  | [], i, j, c, h, _ => by simp at h
  | d :: l, 0, j, c, h, hj => by
    simp at h; subst h
    unfold cat
    rw [List.flatMap_cons, List.getElem?_append_left (by rw [Cp.l_len]; omega), Nat.zero_mul, Nat.zero_add]
  | d :: l, i + 1, j, c, h, hj => by
    have ih := cat_get l i j c (by simpa using h) hj
    unfold cat at ih ⊢
    rw [List.flatMap_cons, List.getElem?_append_right (by rw [Cp.l_len]; omega), Cp.l_len, show (i + 1) * 8 + j - 8 = i * 8 + j by omega]
    exact ih
def Cp.off (c : Cp) : Cp := { c with v := false }
theorem cat_off : ∀ (l : List Cp) (i : Nat) (c : Cp), l[i]? = some c → (cat l).set (i * 8 + 7) (.bool false) = cat (l.set i c.off)
  | [], i, c, h => by simp at h
  | d :: l, 0, c, h => by
    simp at h; subst h
    unfold cat
    rw [List.flatMap_cons, List.set_cons_zero, List.flatMap_cons, List.set_append_left _ _ (by rw [Cp.l_len]; omega)]
    rfl
  | d :: l, i + 1, c, h => by
    have ih := cat_off l i c (by simpa using h)
    unfold cat at ih ⊢
    rw [List.flatMap_cons, List.set_append_right _ _ (by rw [Cp.l_len]; omega), Cp.l_len, show (i + 1) * 8 + 7 - 8 = i * 8 + 7 by omega, ih, List.set_cons_succ, List.flatMap_cons]
theorem cat_cell {w : World} {g : Nat} {T : TypeId} {l : List Cp} (h : At w g T (cat l).toArray) (i : Nat) (c : Cp) (hi : l[i]? = some c) :
    w.cell? ⟨g, i * 8, none⟩ = some (.int .u32 c.cur) ∧ w.cell? ⟨g, i * 8 + 1, none⟩ = some (.int .u8 c.e) ∧ w.cell? ⟨g, i * 8 + 2, none⟩ = some (.int .u16 c.b) ∧ w.cell? ⟨g, i * 8 + 3, none⟩ = some (.int .u16 c.t) ∧ w.cell? ⟨g, i * 8 + 4, none⟩ = some (.int .u16 c.pm) ∧ w.cell? ⟨g, i * 8 + 5, none⟩ = some (.int .u16 c.ty) ∧ w.cell? ⟨g, i * 8 + 6, none⟩ = some (.int .u32 c.rs) ∧ w.cell? ⟨g, i * 8 + 7, none⟩ = some (.bool c.v) := by
  have key : ∀ j, j < 8 → w.cell? ⟨g, i * 8 + j, none⟩ = c.l[j]? := fun j hj => by
    rw [h.cell, List.getElem?_toArray]; exact cat_get l i j c hi hj
  exact ⟨key 0 (by omega), key 1 (by omega), key 2 (by omega), key 3 (by omega), key 4 (by omega), key 5 (by omega), key 6 (by omega), key 7 (by omega)⟩
/-- One of them cleaned. -/
def cln (hs : Int → Bool) (c : Cp) : Cp := if stB hs c = true then c.off else c
def sOne (hs : Int → Bool) (c : Cp) : Nat := if stB hs c = true then 1 else 0
set_option maxHeartbeats 1000000 in
theorem clean1_any {B : Nat} {w : World} {pv : Option Addr} {hs : Int → Bool} (h : Hs B w pv hs) (hB : B ≤ w.heap.size) (g q1 q2 : Nat) (T : TypeId) (l : List Cp) (i : Nat) (c : Cp) (k : Nat)
    (hg : At w g T (cat l).toArray) (hi : l[i]? = some c) (hc : c.cur < 4294967296) (h1 : At w q1 128 #[.func (.func 96) #[.agg #[.pointer pv]] #[]]) (h2 : At w q2 3 #[.int .i64 k]) (hk : k ≤ 1000000) (hgq : g ≠ q2) (hgB : B ≤ g) (hqB : B ≤ q2) :
    Calls Tryz.prog 124 #[.pointer (some ⟨g, i * 8, none⟩), .pointer (some ⟨q1, 0, none⟩), .pointer (some ⟨q2, 0, none⟩)] w fun r w' => (∃ v, r = .returned v) ∧ At w' g T (cat (l.set i (cln hs c))).toArray ∧ At w' q2 3 #[.int .i64 (k + sOne hs c : Nat)] ∧ Fr [g, q2] w w' := by
  have C := Lib.hid fun (W : World) (hW : W.heap = w.heap) => stale_any (h.hp (w' := W) hW) (by rw [hW]; exact hB) c hc
  obtain ⟨d0, d1, d2, d3, d4, d5, d6, d7⟩ := cat_cell hg i c hi
  have cq := h1.cell 0
  simp only [List.getElem?_toArray, List.getElem?_cons_zero] at cq
  have HG := Lib.hid hg
  have HI := Lib.hid hi
  have H2 := Lib.hid h2
  unfold Cp.cells at C
  have hl1 := hg.lt
  have hl2 := h1.lt
  unfold cln sOne
  by_cases hb : stB hs c = true
  · rw [hb] at C
    rw [if_pos hb, if_pos hb]
    clear h hg hi h1 h2 hb
    go_enter Tryz.func124, Tryz.ntmps124
    go_wp2_with fail
    go_region_held3 (fun w' => w'.cell? ⟨q1, 0, none⟩ = some (.func (.func 96) #[.agg #[.pointer pv]] #[]) ∧ w'.cell? ⟨g, i * 8, none⟩ = some (.int .u32 c.cur) ∧ w'.cell? ⟨g, i * 8 + 1, none⟩ = some (.int .u8 c.e) ∧ w'.cell? ⟨g, i * 8 + 2, none⟩ = some (.int .u16 c.b) ∧ w'.cell? ⟨g, i * 8 + 3, none⟩ = some (.int .u16 c.t) ∧ w'.cell? ⟨g, i * 8 + 4, none⟩ = some (.int .u16 c.pm) ∧ w'.cell? ⟨g, i * 8 + 5, none⟩ = some (.int .u16 c.ty) ∧ w'.cell? ⟨g, i * 8 + 6, none⟩ = some (.int .u32 c.rs) ∧ w'.cell? ⟨g, i * 8 + 7, none⟩ = some (.bool c.v)) (first | exact ⟨cq, d0, d1, d2, d3, d4, d5, d6, d7⟩ | exact dd | go_keep) ((go_at_call 96; refine (C.out _ (by rfl)).mono ?_; rintro e w5 ⟨rfl, hf5⟩; have keep : ∀ (a : Addr) (v : Value), w.cell? a = some v → w5.cell? a = some v := fun a v hv => (hf5.cell (a := a) (by exact lt_of_cell hv) (by simp)).trans hv; have dd := And.intro (keep _ _ cq) (And.intro (keep _ _ d0) (And.intro (keep _ _ d1) (And.intro (keep _ _ d2) (And.intro (keep _ _ d3) (And.intro (keep _ _ d4) (And.intro (keep _ _ d5) (And.intro (keep _ _ d6) (keep _ _ d7))))))))))
    all_goals
      have hf6 : Fr [] w w5 := hf5.hd rfl rfl rfl rfl
      have G5 := Lib.hid (HG.out.fr hf6 (by simp))
      have Q5 := Lib.hid (H2.out.fr hf6 (by simp))
      have F6 := Lib.hid hf6
      have e7 := dd.2.2.2.2.2.2.2.2
      have f7 := G5.out.froz (i * 8 + 7)
      have eq := Q5.out.cell 0
      have fq := Q5.out.froz 0
      simp only [List.getElem?_toArray, List.getElem?_cons_zero] at eq
      clear hf5 hf6 dd d0 d1 d2 d3 d4 d5 d6 d7 cq C
      go_wp2_with fail
      go_end0
    refine ⟨⟨_, rfl⟩, ?_, ?_, ((F6.out.more (T := [g, q2]) (by simp)).set (.inl (by simp)) _).set (.inl (by simp)) _⟩
    · have := (G5.out.set (i * 8 + 7) (.bool false)).far (show g ≠ q2 from hgq) (a := ⟨q2, 0, none⟩) (.int .i64 (k + 1))
      rw [List.setIfInBounds_toArray, cat_off l i c HI.out] at this
      exact this
    · exact (Q5.out.far (show q2 ≠ g from fun e => hgq e.symm) (a := ⟨g, i * 8 + 7, none⟩) (.bool false)).set 0 _
  · rw [Bool.not_eq_true] at hb
    rw [hb] at C ⊢
    simp only [Bool.false_eq_true, if_false, Nat.add_zero]
    clear h hg hi h1 h2 hb
    go_enter Tryz.func124, Tryz.ntmps124
    go_wp2_with fail
    go_region_held3 (fun w' => w'.cell? ⟨q1, 0, none⟩ = some (.func (.func 96) #[.agg #[.pointer pv]] #[]) ∧ w'.cell? ⟨g, i * 8, none⟩ = some (.int .u32 c.cur) ∧ w'.cell? ⟨g, i * 8 + 1, none⟩ = some (.int .u8 c.e) ∧ w'.cell? ⟨g, i * 8 + 2, none⟩ = some (.int .u16 c.b) ∧ w'.cell? ⟨g, i * 8 + 3, none⟩ = some (.int .u16 c.t) ∧ w'.cell? ⟨g, i * 8 + 4, none⟩ = some (.int .u16 c.pm) ∧ w'.cell? ⟨g, i * 8 + 5, none⟩ = some (.int .u16 c.ty) ∧ w'.cell? ⟨g, i * 8 + 6, none⟩ = some (.int .u32 c.rs) ∧ w'.cell? ⟨g, i * 8 + 7, none⟩ = some (.bool c.v)) (first | exact ⟨cq, d0, d1, d2, d3, d4, d5, d6, d7⟩ | exact dd | go_keep) ((go_at_call 96; refine (C.out _ (by rfl)).mono ?_; rintro e w5 ⟨rfl, hf5⟩; have keep : ∀ (a : Addr) (v : Value), w.cell? a = some v → w5.cell? a = some v := fun a v hv => (hf5.cell (a := a) (by exact lt_of_cell hv) (by simp)).trans hv; have dd := And.intro (keep _ _ cq) (And.intro (keep _ _ d0) (And.intro (keep _ _ d1) (And.intro (keep _ _ d2) (And.intro (keep _ _ d3) (And.intro (keep _ _ d4) (And.intro (keep _ _ d5) (And.intro (keep _ _ d6) (keep _ _ d7))))))))))
    all_goals
      have hf6 : Fr [] w w5 := hf5.hd rfl rfl rfl rfl
      have G5 := Lib.hid (HG.out.fr hf6 (by simp))
      have Q5 := Lib.hid (H2.out.fr hf6 (by simp))
      have F6 := Lib.hid hf6
      have e7 := dd.2.2.2.2.2.2.2.2
      have f7 := G5.out.froz (i * 8 + 7)
      have eq := Q5.out.cell 0
      have fq := Q5.out.froz 0
      simp only [List.getElem?_toArray, List.getElem?_cons_zero] at eq
      clear hf5 hf6 dd d0 d1 d2 d3 d4 d5 d6 d7 cq C
      go_wp2_with fail
      go_end0
    refine ⟨⟨_, rfl⟩, ?_, Q5.out, F6.out.more (by simp)⟩
    have hset : l.set i c = l := by
      obtain ⟨hlt, he⟩ := List.getElem?_eq_some_iff.1 HI.out
      rw [← he]; exact List.set_getElem_self hlt
    rw [hset]
    exact G5.out
end Go.Proofs.YthjbnbimfpbccaaGreatDoor
/-
  What scan.Caps does to a list of capabilities. Conditions: numbers in their types' ranges; a thousand capabilities at most.
-/




set_option linter.unusedVariables false
namespace Go.Proofs.YthjbnbimfpbccaaGreatDoor
open Go.ChangeShapes Go.WideShapes Go.ChangeAt Go.RowKit
/-- The first j cleaned. -/
def upto (hs : Int → Bool) (l : List Cp) (j : Nat) : List Cp := (l.take j).map (cln hs) ++ l.drop j
def sums (hs : Int → Bool) (l : List Cp) : Nat := (l.map (sOne hs)).sum
theorem upto_zero (hs : Int → Bool) (l : List Cp) : upto hs l 0 = l := by simp [upto]
theorem upto_len (hs : Int → Bool) (l : List Cp) (j : Nat) : (upto hs l j).length = l.length := by simp [upto]; omega
theorem upto_get (hs : Int → Bool) (l : List Cp) (j : Nat) (c : Cp) (h : l[j]? = some c) : (upto hs l j)[j]? = some c := by
  have hj := (List.getElem?_eq_some_iff.1 h).1
  unfold upto
  rw [List.getElem?_append_right (by simp; omega)]
  simp only [List.length_map, List.length_take, Nat.min_eq_left (Nat.le_of_lt hj), Nat.sub_self, List.getElem?_drop, Nat.add_zero]
  exact h
theorem upto_set (hs : Int → Bool) (l : List Cp) (j : Nat) (c : Cp) (h : l[j]? = some c) : (upto hs l j).set j (cln hs c) = upto hs l (j + 1) := by
  obtain ⟨hj, he⟩ := List.getElem?_eq_some_iff.1 h
  unfold upto
  rw [List.set_append_right _ _ (by simp; omega)]
  simp only [List.length_map, List.length_take, Nat.min_eq_left (Nat.le_of_lt hj), Nat.sub_self]
  rw [List.drop_eq_getElem_cons hj, List.set_cons_zero, List.take_succ_eq_append_getElem hj, List.map_append, List.append_assoc, he]
  rfl
theorem upto_all (hs : Int → Bool) (l : List Cp) : upto hs l l.length = l.map (cln hs) := by simp [upto]
theorem sums_succ (hs : Int → Bool) (l : List Cp) (j : Nat) (c : Cp) (h : l[j]? = some c) : sums hs (l.take (j + 1)) = sums hs (l.take j) + sOne hs c := by
  obtain ⟨hj, he⟩ := List.getElem?_eq_some_iff.1 h
  unfold sums
  rw [List.take_succ_eq_append_getElem hj, List.map_append, List.sum_append, he]
  simp
theorem sums_le (hs : Int → Bool) (l : List Cp) : sums hs l ≤ l.length := by
  unfold sums
  induction l with
  | nil => exact Nat.le_refl _
  | cons c l ih => rw [List.map_cons, List.sum_cons, List.length_cons]; unfold sOne at ih ⊢; split <;> omega
theorem scaps1_any {B : Nat} {w : World} {pv : Option Addr} {hs : Int → Bool} (h : Hs B w pv hs) (hB : B ≤ w.heap.size) (g q1 q2 cap : Nat) (T : TypeId) (l : List Cp)
    (hg : At w g T (cat l).toArray) (hc : ∀ c ∈ l, c.cur < 4294967296) (h1 : At w q1 128 #[.func (.func 96) #[.agg #[.pointer pv]] #[]]) (h2 : At w q2 3 #[.int .i64 0]) (hl : l.length ≤ 1000) (hgq : g ≠ q2) (hgB : B ≤ g) (hqB : B ≤ q2) (hq1 : q1 ≠ g) (hq2 : q1 ≠ q2) (hcap : l.length ≤ cap) :
    Calls Tryz.prog 90 #[.slice (some ⟨g, 0, none⟩) l.length cap, .func (.func 124) #[] #[.pointer (some ⟨q1, 0, none⟩), .pointer (some ⟨q2, 0, none⟩)]] w fun r w' => (∃ v, r = .returned v) ∧ At w' g T (cat (l.map (cln hs))).toArray ∧ At w' q2 3 #[.int .i64 (sums hs l : Nat)] ∧ Fr [g, q2] w w' := by
  have HH := Lib.hid h
  have HC := Lib.hid hc
  have H1 := Lib.hid h1
  have HG := Lib.hid hg
  have H2 := Lib.hid h2
  obtain ⟨n, hn⟩ : ∃ n, l.length = n := ⟨_, rfl⟩
  have HN := Lib.hid hn
  rw [hn] at hl hcap ⊢
  clear h hc h1 hg h2 hn
  go_enter Tryz.func90, Tryz.ntmps90
  go_wp2
  go_loopw [7] (fun v wr => ∃ j : Nat, j ≤ n ∧ v = .int .i64 j ∧ At wr g T (cat (upto hs l j)).toArray ∧ At wr q2 3 #[.int .i64 (sums hs (l.take j) : Nat)] ∧ Fr [g, q2] w wr) (fun v _ => n - (intOf v).toNat)
  case atStart => exact ⟨0, by omega, rfl, by rw [upto_zero]; exact HG.out, H2.out, Fr.refl _ _⟩
  case round =>
    clear HG H2
    obtain ⟨j, hj, rfl, hg, h2, hf⟩ := hrel
    have HG := Lib.hid hg
    have H2 := Lib.hid h2
    have HF := Lib.hid hf
    clear hg h2 hf
    by_cases hlt : j < n
    · obtain ⟨c, hcj⟩ : ∃ c, l[j]? = some c := ⟨_, List.getElem?_eq_getElem (by rw [HN.out]; exact hlt)⟩
      have hle := sums_le hs (l.take j)
      have hlj : (l.take j).length ≤ j := List.length_take_le _ _
      have C := Lib.hid (clean1_any (HH.out.fr HF.out (by simp; exact ⟨hgB, hqB⟩)) (Nat.le_trans hB HF.out.size) g q1 q2 T _ j c _ HG.out (upto_get hs l j c hcj) (HC.out c (List.mem_of_getElem? hcj)) (H1.out.fr HF.out (by simp; exact ⟨hq1, hq2⟩)) H2.out (by omega) hgq hgB hqB)
      rw [upto_set hs l j c hcj, ← sums_succ hs l j c hcj] at C
      clear hcj hle hlj
      go_wp2_with fail
      refine (C.out).mono ?_
      rintro e w5 ⟨⟨v, rfl⟩, g5, q5, f5⟩
      have G5 := Lib.hid g5
      have Q5 := Lib.hid q5
      have F5 := Lib.hid (HF.out.trans f5 (by simp))
      clear g5 q5 f5 C
      go_wp2_with fail
      go_roundw
      case rel => exact ⟨j + 1, by omega, by go_num, G5.out, Q5.out, F5.out⟩
      case measure => simp [intOf]; omega
    · obtain rfl : j = n := by omega
      have HU := Lib.hid (show upto hs l j = l.map (cln hs) by rw [← HN.out, upto_all])
      have HT := Lib.hid (show l.take j = l by rw [← HN.out, List.take_length])
      go_wp2_with fail
      go_end0
      refine ⟨⟨_, rfl⟩, by rw [← HU.out]; exact HG.out, by have := H2.out; rw [HT.out] at this; exact this, HF.out⟩
theorem sclean_any {B : Nat} {w : World} {pv : Option Addr} {hs : Int → Bool} (h : Hs B w pv hs) (g cap : Nat) (T : TypeId) (l : List Cp)
    (hg : At w g T (cat l).toArray) (hc : ∀ c ∈ l, c.cur < 4294967296) (hl : l.length ≤ 1000) (hgB : B ≤ g) (hcap : l.length ≤ cap) :
    Calls Tryz.prog 89 #[.slice (some ⟨g, 0, none⟩) l.length cap, .pointer pv, .func (.func 90) #[] #[]] w fun r w' => r = .returned (.int .i64 (sums hs l : Nat)) ∧ At w' g T (cat (l.map (cln hs))).toArray ∧ Fr [g] w w' := by
  have hlt := hg.lt
  have F0 : Fr [] w ((w.alloc (.cells #[.func (.func 96) #[.agg #[.pointer pv]] #[]] 128)).alloc (.cells #[.int .i64 0] 3)) := (by repeat (first | exact Fr.refl _ _ | assumption | refine Fr.trans0 ?_ (by assumption) | refine Fr.drewN ?_ _ | refine Fr.alloc ?_ _ | refine Fr.drew ?_))
  have A1 := (At.new w 128 #[.func (.func 96) #[.agg #[.pointer pv]] #[]]).old (.cells #[.int .i64 0] 3)
  have A2 := At.new (w.alloc (.cells #[.func (.func 96) #[.agg #[.pointer pv]] #[]] 128)) 3 #[.int .i64 0]
  rw [World.size_alloc] at A2
  have C := Lib.hid (scaps1_any (h.fr F0 (by simp)) (by have := F0.size; omega) g w.heap.size (w.heap.size + 1) cap T l (hg.fr F0 (by simp)) hc A1 A2 hl (by omega) hgB (by omega) (by omega) (by omega) hcap)
  have HF0 := Lib.hid F0
  obtain ⟨n, hn⟩ : ∃ n, l.length = n := ⟨_, rfl⟩
  obtain ⟨s, hs1⟩ : ∃ s, sums hs l = s := ⟨_, rfl⟩
  rw [hn] at C ⊢
  rw [hs1] at C ⊢
  clear h hg hc hl F0 A1 A2 hcap hn hs1
  go_enter Tryz.func89, Tryz.ntmps89
  go_wp2_with fail
  refine (C.out).mono ?_
  rintro e w5 ⟨⟨v, rfl⟩, g5, q5, f5⟩
  have c := q5.cell 0
  simp only [List.getElem?_toArray, List.getElem?_cons_zero] at c
  have G5 := Lib.hid g5
  have F5 := Lib.hid ((HF0.out.more (T := [g]) (by simp)).trans f5 (by simp))
  clear g5 q5 f5
  go_wp2_with fail
  go_ret
  exact ⟨rfl, G5.out, F5.out⟩
end Go.Proofs.YthjbnbimfpbccaaGreatDoor
/-
  What scan.Caps does to a list of capabilities. Conditions: numbers in their types' ranges; a thousand capabilities at most.
-/




set_option linter.unusedVariables false
namespace Go.Proofs.YthjbnbimfpbccaaGreatDoor
open Go.ChangeShapes Go.WideShapes Go.ChangeAt Go.RowKit
theorem infoCap : (Tryz.prog.info? 49).map (fun i => (i.zero, i.size, i.bytes)) = some (some (.agg noC.cells), 8, 24) := by kernel_rfl
theorem cat_one (l : List Cp) : ∀ v ∈ cat l, v.oneCell' = true := by
  intro v hv
  unfold cat at hv
  obtain ⟨c, _, hc⟩ := List.mem_flatMap.1 hv
  unfold Cp.l at hc
  simp only [List.mem_cons, List.not_mem_nil, or_false] at hc
  rcases hc with rfl | rfl | rfl | rfl | rfl | rfl | rfl | rfl <;> rfl
/-- Where a list of capabilities lies that came from somewhere. -/
def CapsIn (w : World) (a : Option Addr) (l : List Cp) : Prop := l = [] ∨ ∃ ad, a = some ad ∧ ∀ j v, (cat l)[j]? = some v → w.cell? (ad.add j) = some v
set_option maxRecDepth 100000 in
theorem scaps_any {B : Nat} {w : World} {pv : Option Addr} {hs : Int → Bool} (h : Hs B w pv hs) (hB : B ≤ w.heap.size) (a : Option Addr) (cap : Nat) (l : List Cp) (hin : CapsIn w a l) (hc : ∀ c ∈ l, c.cur < 4294967296) (hl : l.length ≤ 1000) :
    Calls Tryz.prog 42 #[.slice a l.length cap, .pointer pv] w fun r w' => ∃ g, r = .returned (.tuple #[.slice (some ⟨g, 0, none⟩) l.length l.length, .int .i64 (sums hs l : Nat)]) ∧ At w' g 49 (cat (l.map (cln hs))).toArray ∧ w.heap.size ≤ g ∧ Fr [] w w' := by
  obtain ⟨n, hn⟩ : ∃ n, l.length = n := ⟨_, rfl⟩
  have hmk := run_make_wide (P := Tryz.prog) 100 49 (.agg noC.cells) 8 24 Tryz.underlying100 infoCap .i64 .i64 n (by omega) (by omega)
  have A0 := At.new w 49 (madeCells noC.cells (n * 8))
  have F0 : Fr [] w (w.alloc (.cells (madeCells noC.cells (n * 8)) 49)) := (by repeat (first | exact Fr.refl _ _ | assumption | refine Fr.trans0 ?_ (by assumption) | refine Fr.drewN ?_ _ | refine Fr.alloc ?_ _ | refine Fr.drew ?_))
  have hsz : (madeCells noC.cells (n * 8)).size = n * 8 := size_madeCells _ _
  have hcl : (cat l).length = n * 8 := by rw [cat_len, hn]
  have hcp : ∃ w5, (Builtin.copy_ #[100, 100] 3 #[.slice (some ⟨w.heap.size, 0, none⟩) n n, .slice a n cap]).run Tryz.prog (w.alloc (.cells (madeCells noC.cells (n * 8)) 49)) = .ok (goInt n) w5 ∧ At w5 w.heap.size 49 (cat l).toArray ∧ Fr [] w w5 := by
    rcases hin with h0 | ⟨ad, rfl, had⟩
    · subst h0
      obtain rfl : 0 = n := hn
      refine ⟨_, run_copy_wide0 _ _ _ _ 49 _ _ _ _ Tryz.underlying100 (by kernel_rfl), ?_, F0⟩
      have e : madeCells noC.cells (0 * 8) = (cat []).toArray := Array.eq_empty_of_size_eq_zero (size_madeCells _ _)
      rw [← e]; exact A0
    · refine ⟨_, run_copy_wide _ _ _ _ 49 8 w.heap.size 0 n n ad cap (madeCells noC.cells (n * 8)) 49 (cat l) Tryz.underlying100 (by kernel_rfl) A0 hcl (fun j v hv => ?_) (by rw [hsz, hcl]; omega) (cat_one l), ?_, ?_⟩
      · exact (F0.cell (lt_of_cell (had j v hv)) (by simp)).trans (had j v hv)
      · have := setRow_heap (w.alloc (.cells (madeCells noC.cells (n * 8)) 49)) w.heap.size _ (cat l).toArray 49 (0, 0) A0
        rw [List.take_zero, List.nil_append, List.drop_eq_nil_of_le (by simp [hsz, hcl]), List.append_nil]
        exact this
      · refine ⟨rfl, rfl, rfl, by simp, fun k hk _ => ?_⟩
        rw [setRow_other _ _ _ _ (by omega)]
        exact Below.heap_alloc w _ k hk
  obtain ⟨w5, hcr, A5, F5⟩ := hcp
  have hHs := h.fr F5 (by simp)
  have C := Lib.hid (sclean_any hHs w.heap.size n 49 l A5 hc hl hB (by omega))
  have HCR := Lib.hid hcr
  obtain ⟨s, hs1⟩ : ∃ s, sums hs l = s := ⟨_, rfl⟩
  rw [hn, hs1] at C
  rw [hn, hs1]
  have HF5 := Lib.hid F5
  clear hcr A0 F0 hsz hcl hHs h hin hc hl hn hs1 A5 F5
  go_enter Tryz.func42, Tryz.ntmps42
  go_wp2_with (first | (go_at_call 89; refine (C.out).mono ?_; rintro e w6 ⟨rfl, h6, hf6⟩) | (refine wpList_copy_run rfl (.tmp 11) (.tmp 12) 100 100 rfl _ _ rfl rfl HCR.out ?_))
  go_ret2
  exact ⟨w.heap.size, rfl, h6, Nat.le_refl _, ⟨hf6.os.trans HF5.out.os, hf6.tape.trans HF5.out.tape, hf6.output.trans HF5.out.output, Nat.le_trans HF5.out.size hf6.size, fun k hk _ => (hf6.keep k (Nat.lt_of_lt_of_le hk HF5.out.size) (by simp; omega)).trans (HF5.out.keep k hk (by simp))⟩⟩
end Go.Proofs.YthjbnbimfpbccaaGreatDoor
/-
  The capabilities of layer 19's statements. Conditions: numbers in their types' ranges.
-/




set_option linter.unusedVariables false
namespace Go.Proofs.YthjbnbimfpbccaaGreatDoor
open Go.ChangeShapes Go.WideShapes Go.ChangeAt Go.RowKit
def ofC (a n : Nat) : Cp := if mkB a n 1 = true then mkC a n 1 else noC
theorem res_row {P : Program} {fn : Func} {p : Tmp} {ty : TypeId} (h : fn.results = #[.cell p ty]) (tmps : Array Value) (w : World) (g : Nat) (t : TypeId) (cs : Array Value) (d : TypeDesc)
    (hp : tmps.getD p undef = .pointer (some ⟨g, 0, none⟩)) (hg : At w g t cs)
    (hu : P.underlying ty = some d) (hd : (match d with | .struct _ | .array _ _ => true | _ => false) = true) (hi : (P.info? ty).map (·.size) = some cs.size) :
    (results fn tmps).run P w = .ok (.agg cs) w := results_cell_row h tmps w g t cs (0, 0) d hp hg hu hd hi
set_option maxHeartbeats 400000 in
set_option maxRecDepth 100000 in
theorem of_anyC (w : World) (a n : Nat) (ha : a < 4294967296) (hn : n < 4294967296) :
    Calls Tryz.prog 19 #[.int .u32 a, .int .u32 n] w fun r w' => r = .returned (.agg (ofC a n).cells) ∧ Fr [] w w' := by
  have C := Lib.hid fun W => make_any W a n 1 ha hn
  have A0 := At.new w 49 noC.cells
  have F0 : Fr [] w (w.alloc (.cells noC.cells 49)) := (by repeat (first | exact Fr.refl _ _ | assumption | refine Fr.trans0 ?_ (by assumption) | refine Fr.drewN ?_ _ | refine Fr.alloc ?_ _ | refine Fr.drew ?_))
  have A0 := Lib.hid A0
  have F0 := Lib.hid F0
  unfold ofC
  generalize mkB a n 1 = ok at *
  obtain ⟨c, hc⟩ : ∃ c, (if ok = true then mkC a n 1 else noC) = c := ⟨_, rfl⟩
  rw [hc] at C ⊢
  clear hc
  unfold noC Cp.cells at A0 F0
  unfold Cp.cells at C ⊢
  dsimp only [Int.cast_ofNat_Int] at A0 F0
  go_enter Tryz.func19, Tryz.ntmps19
  go_wp2_with fail
  refine (C.out _).mono ?_
  rintro e w2 ⟨rfl, hf2⟩
  have A2 := Lib.hid (A0.out.fr hf2 (by simp))
  have F2 := Lib.hid (F0.out.trans0 hf2)
  have hws := F2.out.size
  clear hf2 A0 F0 C
  have HI := Lib.hid (show (Tryz.prog.info? 49).map (·.size) = some 8 by kernel_rfl)
  have AO := Lib.hid (At.old A2.out (.cells #[Value.int .u32 c.cur, .int .u8 c.e, .int .u16 c.b, .int .u16 c.t, .int .u16 c.pm, .int .u16 c.ty, .int .u32 c.rs, .bool c.v] 49))
  have HO := Lib.hid (show (#[Value.int .u32 c.cur, .int .u8 c.e, .int .u16 c.b, .int .u16 c.t, .int .u16 c.pm, .int .u16 c.ty, .int .u32 c.rs, .bool c.v] : Array Value).all (·.oneCell') = true by simp [Value.oneCell'])
  go_upto_region 2 with (fail)
  go_wp2_with (first | (refine wpList_store_row rfl 49 (.tmp 4) (.tmp 14) rfl w.heap.size #[Value.int .u32 c.cur, .int .u8 c.e, .int .u16 c.b, .int .u16 c.t, .int .u16 c.pm, .int .u16 c.ty, .int .u32 c.rs, .bool c.v] rfl rfl 49 _ AO.out HI.out rfl HO.out ?_))
  refine bodyPost_ret (res_row rfl _ _ w.heap.size 49 #[Value.int .u32 c.cur, .int .u8 c.e, .int .u16 c.b, .int .u16 c.t, .int .u16 c.pm, .int .u16 c.ty, .int .u32 c.rs, .bool c.v] _ rfl (setRow_heap _ _ _ _ _ _ AO.out) Tryz.underlying49 rfl HI.out) rfl ⟨rfl, ?_⟩
  have F3 := F2.out.alloc (.cells #[Value.int .u32 c.cur, .int .u8 c.e, .int .u16 c.b, .int .u16 c.t, .int .u16 c.pm, .int .u16 c.ty, .int .u32 c.rs, .bool c.v] 49)
  exact ⟨F3.os, F3.tape, F3.output, by simpa using F3.size, fun k hk hS => by rw [setRow_other _ _ _ _ (by omega)]; exact F3.keep k hk hS⟩
end Go.Proofs.YthjbnbimfpbccaaGreatDoor
