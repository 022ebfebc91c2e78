/-
  A sweeper by what it holds alone: every function of a sweeper told in these words; blocks of foreign types are kept. Condition: as for a sweeper.
-/
import Derived.Deep.RegionHeld3
import Derived.Deep.CutBlock
import Derived.Deep.DeepCutAuto
import Derived.Laws.EntriesVeiled
import Derived.Laws.Rows
import Derived.Test.YthjbnbimfpbccaaGreatDoorJ5









set_option linter.unusedVariables false
namespace Go.Proofs.YthjbnbimfpbccaaGreatDoor
open Go.ChangeShapes Go.WideShapes Go.ChangeAt Go.RowKit
def On (w0 w : World) (i : Ids) (x : Sm) : Prop := ∃ s pv, Sw w0 w i s x pv
/-- A type that no part of a sweeper has. -/
def frn (t : TypeId) : Bool := !(t == 109 || t == 164 || t == 179 || t == 28 || t == 204 || t == 127 || t == 5 || t == 119 || t == 45)
structure Kp (w w' : World) : Prop where
  keep : ∀ k t cs, frn t = true → At w k t cs → At w' k t cs
  size : w.heap.size ≤ w'.heap.size
theorem frn_ne {t : TypeId} (h : frn t = true) : t ≠ 109 ∧ t ≠ 164 ∧ t ≠ 179 ∧ t ≠ 28 ∧ t ≠ 204 ∧ t ≠ 127 ∧ t ≠ 5 ∧ t ≠ 119 ∧ t ≠ 45 := by
  refine ⟨?_, ?_, ?_, ?_, ?_, ?_, ?_, ?_, ?_⟩ <;> (rintro rfl; revert h; decide)
theorem Kp.of0 {w w' : World} (f : Fr [] w w') : Kp w w' := ⟨fun _ _ _ _ h => h.fr f (by simp), f.size⟩
theorem Kp.refl (w : World) : Kp w w := .of0 (Fr.refl _ _)
theorem Kp.trans {w w' w'' : World} (h : Kp w w') (h' : Kp w' w'') : Kp w w'' := ⟨fun k t cs ht hk => h'.keep k t cs ht (h.keep k t cs ht hk), Nat.le_trans h.size h'.size⟩
section
variable {w0 w w' : World} {i : Ids} {s : YS} {x : Sm} {pv : Option Addr}
theorem Sw.kp (h : Sw w0 w i s x pv) {S : List Nat} (f : Fr S w w') (hS : ∀ k ∈ S, k ∈ i.mut ∨ k ∈ s.foot) : Kp w w' := by
  refine ⟨fun k t cs ht hk => hk.fr f (fun hin => ?_), f.size⟩
  obtain ⟨n1, n2, n3, n4, n5, n6, n7, n8, n9⟩ := frn_ne ht
  rcases hS k hin with h1 | h1
  · exact h.notin (S := [k]) (fun q hq => by simp at hq; subst hq; exact h1) hk n1 n2 n4 n7 (by simp)
  · exact h.Y.nfootT hk n8 n4 n9 h1
theorem Sw.far (h : Sw w0 w i s x pv) {q : Nat} {t : TypeId} {cs : Array Value} (hq : At w q t cs) (ht : frn t = true) (q0 : w0.heap.size ≤ q) (f : Fr [q] w w') : Sw w0 w' i s x pv := by
  obtain ⟨n1, n2, n3, n4, n5, n6, n7, n8, n9⟩ := frn_ne ht
  obtain ⟨⟨_, hgm⟩, _, hgw⟩ := Gn.words h.G
  obtain ⟨a1, a2, a3, a4, a5, a6, ⟨b1, b2, b3, c, cs', b4, b5, b6, b7⟩, cs, a8, a9, a10⟩ := id h.A
  refine ⟨⟨h.S.fr f ?_, ?_, h.G.fr f ?_ ?_ ?_, h.A.fr f ?_ ?_ ?_ ?_, h.Y.offY (S := [q]) (fun k hk => ?_) f, h.T, h.d, h.o, h.hi, h.n⟩, h.un, h.z⟩
  · simpa using h.S.diff hq (Ne.symm n1)
  · rcases h.P with h1 | ⟨pp, pq, pg, n, Fp, h1, h2, h3⟩
    · exact .inl h1
    · obtain ⟨⟨_, k1⟩, ⟨_, k2⟩, ⟨_, k3⟩⟩ := Pt.blocks h2
      exact .inr ⟨pp, pq, pg, n, Fp, h1, h2.fr f (by simpa using k1.diff hq (Ne.symm n5)) (by simpa using k2.diff hq (Ne.symm n3)) (by simpa using k3.diff hq (Ne.symm n4)), h3⟩
  · simpa using h.G.1.diff hq (Ne.symm n2)
  · simpa using hgm.diff hq (Ne.symm n3)
  · simpa using hgw.diff hq (Ne.symm n4)
  · simpa using a6.diff hq (Ne.symm n6)
  · simpa using b5.diff hq (Ne.symm n3)
  · simpa using b6.diff hq (Ne.symm n4)
  · simpa using a8.diff hq (Ne.symm n7)
  · simp only [List.mem_cons, List.not_mem_nil, or_false] at hk
    subst hk
    exact ⟨⟨_, _, hq, n8, n5, n3, n9, fun e => absurd e n4⟩, q0⟩
theorem On.far (h : On w0 w i x) {q : Nat} {t : TypeId} {cs : Array Value} (hq : At w q t cs) (ht : frn t = true) (q0 : w0.heap.size ≤ q) (f : Fr [q] w w') : On w0 w' i x := by
  obtain ⟨s, pv, h⟩ := h
  exact ⟨s, pv, h.far hq ht q0 f⟩
theorem On.fr0 (h : On w0 w i x) (f : Fr [] w w') : On w0 w' i x := by
  obtain ⟨s, pv, h⟩ := h
  exact ⟨s, pv, h.fr0 f⟩
theorem On.f (h : On w0 w i x) : Fr [] w0 w := by
  obtain ⟨s, pv, h⟩ := h
  exact h.Y.f
theorem On.to {x' : Sm} (h : On w0 w i x) (e : x = x') : On w0 w i x' := e ▸ h
section
variable (h : On w0 w i x)
include h
theorem on_stop : Calls Tryz.prog 20 #[.pointer (some ⟨i.sp, 0, none⟩)] w fun r w' => r = .returned (.bool (decide (x.st = 1))) ∧ w = w' := by
  obtain ⟨s, pv, h⟩ := h
  exact swstop_any w0 w i s x pv h
theorem on_go_yes (h1 : x.st = 1) : Calls Tryz.prog 10 #[.pointer (some ⟨i.sp, 0, none⟩)] w fun r w' => r = .returned (.bool true) ∧ On w0 w' i { x with st := 2 } ∧ Kp w w' := by
  obtain ⟨s, pv, h⟩ := h
  exact (swgo_yes w0 w i s x pv h h1).mono fun e w' ⟨h1, h2, h3⟩ => ⟨h1, ⟨s, pv, h2⟩, h.kp h3 (fun k hk => .inl (by unfold Ids.mut; revert hk; simp; intro e; exact .inl e))⟩
theorem on_go_no (h1 : x.st ≠ 1) : Calls Tryz.prog 10 #[.pointer (some ⟨i.sp, 0, none⟩)] w fun r w' => r = .returned (.bool false) ∧ w = w' := by
  obtain ⟨s, pv, h⟩ := h
  exact swgo_no w0 w i s x pv h h1
theorem on_left : Calls Tryz.prog 9 #[.pointer (some ⟨i.sp, 0, none⟩)] w fun r w' => r = .returned (.int .i64 (cnt x.F 16)) ∧ w = w' := by
  obtain ⟨s, pv, h⟩ := h
  exact swleft_any w0 w i s x pv h
theorem on_vis : Calls Tryz.prog 15 #[.pointer (some ⟨i.sp, 0, none⟩)] w fun r w' => r = .returned (.int .u64 (x.vis : Nat)) ∧ w = w' := by
  obtain ⟨s, pv, h⟩ := h
  exact swvis_any w0 w i s x pv h
theorem on_old (h2 : x.st ≤ 2) (page : Int) : Calls Tryz.prog 11 #[.pointer (some ⟨i.sp, 0, none⟩), .int .i64 page] w fun r w' => r = .returned (.bool (decide (x.st ≠ 0) && (inR page 16 && x.F page.toNat))) ∧ w = w' := by
  obtain ⟨s, pv, h⟩ := h
  exact swold_any w0 w i s x pv h h2 page
theorem on_visit_out (page : Int) (h1 : x.st ≠ 2) : Calls Tryz.prog 12 #[.pointer (some ⟨i.sp, 0, none⟩), .int .i64 page] w fun r w' => r = .returned (.bool false) ∧ Fr [] w w' := by
  obtain ⟨s, pv, h⟩ := h
  exact swvisit_out w0 w i s x pv h page h1
theorem on_visit_no (page : Int) (h1 : x.st = 2) (hn : (inR page 16 && x.F page.toNat) = false) : Calls Tryz.prog 12 #[.pointer (some ⟨i.sp, 0, none⟩), .int .i64 page] w fun r w' => r = .returned (.bool false) ∧ Fr [] w w' := by
  obtain ⟨s, pv, h⟩ := h
  exact swvisit_no w0 w i s x pv h page h1 hn
theorem on_visit_yes (P : Nat) (hP : P < 16) (hF : x.F P = true) (h1 : x.st = 2) (hv : x.vis < 1000000) : Calls Tryz.prog 12 #[.pointer (some ⟨i.sp, 0, none⟩), .int .i64 P] w fun r w' => r = .returned (.bool true) ∧ On w0 w' i { x with vis := x.vis + 1, F := upd x.F P false, f := pgT x.bs x.hs x.f (tgP x.bs.length x.f P) } ∧ Kp w w' := by
  obtain ⟨s, pv, h⟩ := h
  exact (swvisit_yes w0 w i s x pv h P hP hF h1 hv).mono fun e w' ⟨h1, h2, h3⟩ => ⟨h1, ⟨s, pv, h2⟩, h.kp h3 (fun k hk => .inl (by unfold Ids.mut; simp only [List.mem_cons, List.not_mem_nil, or_false] at hk ⊢; rcases hk with rfl | rfl | rfl <;> simp))⟩
theorem on_page_out (h1 : x.st ≠ 2) : Calls Tryz.prog 14 #[.pointer (some ⟨i.sp, 0, none⟩)] w fun r w' => r = .returned (.tuple #[.int .i64 0, .bool false]) ∧ w = w' := by
  obtain ⟨s, pv, h⟩ := h
  exact swpage_out w0 w i s x pv h h1
theorem on_page_no (h1 : x.st = 2) (hn : nxtB x.F 16 = false) : Calls Tryz.prog 14 #[.pointer (some ⟨i.sp, 0, none⟩)] w fun r w' => r = .returned (.tuple #[.int .i64 0, .bool false]) ∧ Fr [] w w' := by
  obtain ⟨s, pv, h⟩ := h
  exact swpage_no w0 w i s x pv h h1 hn
theorem on_page_yes (P : Nat) (hP : P < 16) (hF : x.F P = true) (hB : nxtB x.F 16 = true) (hN : nxtP x.F 16 = P) (h1 : x.st = 2) (hv : x.vis < 1000000) : Calls Tryz.prog 14 #[.pointer (some ⟨i.sp, 0, none⟩)] w fun r w' => r = .returned (.tuple #[.int .i64 P, .bool true]) ∧ On w0 w' i { x with vis := x.vis + 1, F := upd x.F P false, f := pgT x.bs x.hs x.f (tgP x.bs.length x.f P) } ∧ Kp w w' := by
  obtain ⟨s, pv, h⟩ := h
  exact (swpage_yes w0 w i s x pv h P hP hF hB hN h1 hv).mono fun e w' ⟨h1, h2, h3⟩ => ⟨h1, ⟨s, pv, h2⟩, h.kp h3 (fun k hk => .inl (by unfold Ids.mut; simp only [List.mem_cons, List.not_mem_nil, or_false] at hk ⊢; rcases hk with rfl | rfl | rfl <;> simp))⟩
theorem on_begin_no (h1 : x.st ≠ 0) : Calls Tryz.prog 8 #[.pointer (some ⟨i.sp, 0, none⟩)] w fun r w' => r = .returned (.tuple #[.int .u64 0, .bool false]) ∧ Fr [] w w' := by
  obtain ⟨s, pv, h⟩ := h
  exact swbegin_no w0 w i s x pv h h1
theorem on_begin_yes (h1 : x.st = 0) (he : x.m.ep < 1000000) : Calls Tryz.prog 8 #[.pointer (some ⟨i.sp, 0, none⟩)] w fun r w' => r = .returned (.tuple #[.int .u64 (x.m.ep + 1 : Nat), .bool true]) ∧ On w0 w' i { x with st := 1, m := mBegin x.m, F := fstF 16, hs := hasP 256 (cov x.m.lw) } ∧ Kp w w' := by
  obtain ⟨s, pv, h⟩ := h
  exact (swbegin_yes w0 w i s x pv h h1 he).mono fun e w' ⟨h1, s', pv', h2, h3, _⟩ => ⟨h1, ⟨s', pv', h2⟩, h.kp h3 (fun k hk => by
    simp only [List.mem_cons] at hk
    rcases hk with rfl | rfl | rfl | hk
    · exact .inl (by unfold Ids.mut; simp)
    · exact .inl (by unfold Ids.mut; simp)
    · exact .inl (by unfold Ids.mut; simp)
    · exact .inr hk)⟩
theorem on_end_out (h1 : x.st ≠ 2) : Calls Tryz.prog 13 #[.pointer (some ⟨i.sp, 0, none⟩)] w fun r w' => r = .returned (.tuple #[.slice none 0 0, .bool false]) ∧ Fr [] w w' := by
  obtain ⟨s, pv, h⟩ := h
  exact swend_out w0 w i s x pv h h1
theorem on_end_no (h1 : x.st = 2) (hn : cnt x.F 16 ≠ 0) : Calls Tryz.prog 13 #[.pointer (some ⟨i.sp, 0, none⟩)] w fun r w' => r = .returned (.tuple #[.slice none 0 0, .bool false]) ∧ Fr [] w w' := by
  obtain ⟨s, pv, h⟩ := h
  exact swend_no w0 w i s x pv h h1 hn
theorem on_end_yes (h1 : x.st = 2) (hn : cnt x.F 16 = 0) : Calls Tryz.prog 13 #[.pointer (some ⟨i.sp, 0, none⟩)] w fun r w' => ∃ v, r = .returned (.tuple #[v, .bool true]) ∧ w'.ownsRow 0 45 2 v x.m.lb.length (rgv x.m.lb) ∧ On w0 w' i { x with st := 0, m := mEnd x.m } ∧ Kp w w' := by
  obtain ⟨s, pv, h⟩ := h
  exact (swend_yes w0 w i s x pv h h1 hn).mono fun e w' ⟨v, s', h1, h2, h3, h4, h5, _⟩ => ⟨v, h1, h2, ⟨s', pv, h4⟩, h.kp h5 (fun k hk => by
    rcases List.mem_cons.1 hk with rfl | hk
    · exact .inl (by unfold Ids.mut; simp)
    · exact .inr hk)⟩
theorem on_free (a r : Nat) (ha : a < 4294967296) (hr : r < 4294967296) : Calls Tryz.prog 17 #[.pointer (some ⟨i.y, 0, none⟩), .agg #[.int .u32 a, .int .u32 r]] w fun e w' => e = .returned (.bool (frB x.m a r)) ∧ On w0 w' i { x with m := mFree x.m a r } ∧ Kp w w' := by
  obtain ⟨s, pv, h⟩ := h
  exact (swfree_any w0 w i s x pv h a r ha hr).mono fun e w' ⟨h1, s', h2, h3, _⟩ => ⟨h1, ⟨s', pv, h2⟩, h.kp h3 (fun k hk => .inr hk)⟩
theorem on_storec (a : Nat) (ha : a < 4294967296) (c : Cp) (hc : c.Ok) : Calls Tryz.prog 18 #[.pointer (some ⟨i.ap, 0, none⟩), .int .u32 a, .agg c.cells] w fun e w' => e = .returned (.bool (whB x.bs.length a)) ∧ On w0 w' i { x with bs := scL x.bs a c, f := scF x.bs x.f a c } ∧ Kp w w' := by
  obtain ⟨s, pv, h⟩ := h
  exact (swstorec_any w0 w i s x pv h a ha c hc).mono fun e w' ⟨h1, h2, h3⟩ => ⟨h1, ⟨s, pv, h2⟩, h.kp h3 (fun k hk => .inl (by unfold Ids.mut; simp only [List.mem_cons, List.not_mem_nil, or_false] at hk ⊢; rcases hk with rfl | rfl <;> simp))⟩
theorem on_loadc (a : Nat) (ha : a < 4294967296) : Calls Tryz.prog 40 #[.pointer (some ⟨i.ap, 0, none⟩), .int .u32 a] w fun r w' => r = .returned (.tuple #[.agg (ldC x.bs x.f a).cells, .bool (whB x.bs.length a)]) ∧ Fr [] w w' := by
  obtain ⟨s, pv, h⟩ := h
  exact aloadc_b w _ _ _ _ _ _ _ h.A a ha
theorem on_store (a : Nat) (ha : a < 4294967296) (k : Int) (v : Nat) (hv : v < 4294967296) : Calls Tryz.prog 41 #[.pointer (some ⟨i.ap, 0, none⟩), .int .u32 a, .int .i64 k, .int .u32 v] w fun e w' => e = .returned (.bool (okE x.bs.length a k)) ∧ On w0 w' i { x with bs := stL x.bs a k v, f := stT x.bs x.f a k v } ∧ Kp w w' := by
  obtain ⟨s, pv, h⟩ := h
  refine (astore_b w _ _ _ _ _ _ _ h.A a ha k v hv).mono ?_
  rintro e w' ⟨rfl, h2, hf⟩
  have hm : ∀ k ∈ [i.ag, i.bg], k ∈ i.mut := by unfold Ids.mut; simp
  have ne := h.ne
  exact ⟨rfl, ⟨s, pv, h.mk2 hm hf _ (h.S.fr hf (by simp; omega)) (h.gens hm hf (by simp; omega) (by simp; omega)) h2 rfl rfl h.un h.z⟩, h.kp hf (fun k hk => .inl (hm k hk))⟩
theorem on_tagged (page : Int) : Calls Tryz.prog 21 #[.pointer (some ⟨i.ap, 0, none⟩), .int .i64 page] w fun e w' => ∃ v, e = .returned v ∧ w'.ownsRow w.heap.size 43 1 v (tgP x.bs.length x.f page).length (u32s (tgP x.bs.length x.f page)) ∧ Fr [] w w' := by
  obtain ⟨s, pv, h⟩ := h
  exact atagged_any w _ _ _ _ _ _ _ h.A page
end
end
end Go.Proofs.YthjbnbimfpbccaaGreatDoor
/-
  A new sweeper. Condition: an arena of sixteen pages, a yard of as many bytes.
-/









set_option linter.unusedVariables false
namespace Go.Proofs.YthjbnbimfpbccaaGreatDoor
open Go.ChangeShapes Go.WideShapes Go.ChangeAt Go.RowKit
set_option maxRecDepth 100000 in
theorem swnew_any (w0 w : World) (ap q ag bg cap y : Nat) (bs : List Nat) (f : Nat → Bool) (m : MS) (s : YS) (hA : Ar w ap q ag bg cap bs f) (hl : bs.length = 4096) (hY : Yw w0 w y m s) (hT : Tab w0) (hn : m.n = 256) (hu : m.un = false) (he : m.ep = 0) (hag : w0.heap.size ≤ ag) (hbg : w0.heap.size ≤ bg) (ho : ag ≠ s.c ∧ ag ≠ s.c') :
    Calls Tryz.prog 22 #[.pointer (some ⟨ap, 0, none⟩), .pointer (some ⟨y, 0, none⟩)] w fun r w' => ∃ sp gp p g, r = .returned (.tuple #[.pointer (some ⟨sp, 0, none⟩), .int .i64 0]) ∧ Sw w0 w' ⟨sp, gp, p, g, ap, q, ag, bg, cap, y⟩ s ⟨0, 0, fun _ => false, m, bs, f, nohs⟩ none ∧ Fr [] w w' := by
  have CS := Lib.hid (asize_any _ _ _ _ _ _ _ _ hA)
  rw [hl] at CS
  have CG := Lib.hid (gnew_any 16 w (by omega))
  have HA := Lib.hid hA
  have HY := Lib.hid hY
  have HE := Lib.hid he
  have HU := Lib.hid hu
  have ls := Lib.hid (show s.c < w.heap.size ∧ s.c' < w.heap.size from ⟨hY.yd.wt.lt.2.2, hY.yd.bt.lt.2.2⟩)
  have hws := hY.f.size
  clear hA hl hY he hu
  go_enter Tryz.func22, Tryz.ntmps22
  go_wp2_with fail
  refine CS.out.mono ?_
  rintro e w' ⟨rfl, rfl⟩
  go_wp2_with fail
  refine CG.out.mono ?_
  rintro e w2 ⟨gp, p, g, rfl, hg, i1, i2, i3, hf2⟩
  have G2 := Lib.hid hg
  have F2 := Lib.hid hf2
  have s2 := hf2.size
  clear hg hf2 CG CS
  go_wp2_with fail
  go_ret2
  have hla := HA.out.lt
  have f3 : Fr [] w2 (w2.alloc (.cells #[.pointer (some ⟨gp, 0, none⟩), .pointer (some ⟨ap, 0, none⟩), .pointer (some ⟨y, 0, none⟩), .pointer none, .int .i64 0, .int .u64 0] 109)) := (Fr.refl _ _).alloc _
  have hz : cnt (fun _ => false) 16 = 0 := by decide
  exact ⟨w2.heap.size, gp, p, g, rfl, ⟨⟨At.new w2 _ _, .inl ⟨rfl, rfl⟩, by have := G2.out.fr f3 (by simp) (by simp) (by simp); rw [HE.out]; exact this, (HA.out.fr0 F2.out).fr0 f3, (HY.out.fr F2.out).fr f3, hT, ⟨by dsimp only; omega, by dsimp only; omega⟩, ⟨⟨by have := ls.out; dsimp only; omega, by have := ls.out; dsimp only; omega⟩, ho⟩, by unfold Ids.mut; simp; omega, hn⟩, by rw [HU.out]; rfl, fun _ => hz⟩, F2.out.trans0 f3⟩
end Go.Proofs.YthjbnbimfpbccaaGreatDoor
/-
  Lists of capabilities in a block; what scan.clean does to one of them, and to all. Condition: numbers in their types' ranges.
-/




set_option linter.unusedVariables false
namespace Go.Proofs.YthjbnbimfpbccaaGreatDoor
open Go.ChangeShapes Go.WideShapes Go.ChangeAt Go.RowKit
/-! ### capabilities one behind the other -/
def cat (l : List Cp) : List Value := l.flatMap Cp.l
theorem Cp.l_len (c : Cp) : c.l.length = 8 := rfl
theorem cat_len (l : List Cp) : (cat l).length = l.length * 8 := by
  unfold cat
  induction l with
  | nil => rfl
  | cons c l ih => rw [List.flatMap_cons, List.length_append, ih, Cp.l_len, List.length_cons]; omega
theorem cat_get : ∀ (l : List Cp) (i j : Nat) (c : Cp), l[i]? = some c → j < 8 → (cat l)[i * 8 + j]? = c.l[j]?
  | [], i, j, c, h, _ => by simp at h
  | d :: l, 0, j, c, h, hj => by
    simp at h; subst h
    unfold cat
    rw [List.flatMap_cons, List.getElem?_append_left (by rw [Cp.l_len]; omega), Nat.zero_mul, Nat.zero_add]
  | d :: l, i + 1, j, c, h, hj => by
    have ih := cat_get l i j c (by simpa using h) hj
    unfold cat at ih ⊢
    rw [List.flatMap_cons, List.getElem?_append_right (by rw [Cp.l_len]; omega), Cp.l_len, show (i + 1) * 8 + j - 8 = i * 8 + j by omega]
    exact ih
def Cp.off (c : Cp) : Cp := { c with v := false }
theorem cat_off : ∀ (l : List Cp) (i : Nat) (c : Cp), l[i]? = some c → (cat l).set (i * 8 + 7) (.bool false) = cat (l.set i c.off)
  | [], i, c, h => by simp at h
  | d :: l, 0, c, h => by
    simp at h; subst h
    unfold cat
    rw [List.flatMap_cons, List.set_cons_zero, List.flatMap_cons, List.set_append_left _ _ (by rw [Cp.l_len]; omega)]
    rfl
  | d :: l, i + 1, c, h => by
    have ih := cat_off l i c (by simpa using h)
    unfold cat at ih ⊢
    rw [List.flatMap_cons, List.set_append_right _ _ (by rw [Cp.l_len]; omega), Cp.l_len, show (i + 1) * 8 + 7 - 8 = i * 8 + 7 by omega, ih, List.set_cons_succ, List.flatMap_cons]
theorem cat_cell {w : World} {g : Nat} {T : TypeId} {l : List Cp} (h : At w g T (cat l).toArray) (i : Nat) (c : Cp) (hi : l[i]? = some c) :
    w.cell? ⟨g, i * 8, none⟩ = some (.int .u32 c.cur) ∧ w.cell? ⟨g, i * 8 + 1, none⟩ = some (.int .u8 c.e) ∧ w.cell? ⟨g, i * 8 + 2, none⟩ = some (.int .u16 c.b) ∧ w.cell? ⟨g, i * 8 + 3, none⟩ = some (.int .u16 c.t) ∧ w.cell? ⟨g, i * 8 + 4, none⟩ = some (.int .u16 c.pm) ∧ w.cell? ⟨g, i * 8 + 5, none⟩ = some (.int .u16 c.ty) ∧ w.cell? ⟨g, i * 8 + 6, none⟩ = some (.int .u32 c.rs) ∧ w.cell? ⟨g, i * 8 + 7, none⟩ = some (.bool c.v) := by
  have key : ∀ j, j < 8 → w.cell? ⟨g, i * 8 + j, none⟩ = c.l[j]? := fun j hj => by
    rw [h.cell, List.getElem?_toArray]; exact cat_get l i j c hi hj
  exact ⟨key 0 (by omega), key 1 (by omega), key 2 (by omega), key 3 (by omega), key 4 (by omega), key 5 (by omega), key 6 (by omega), key 7 (by omega)⟩
/-- One of them cleaned. -/
def cln (hs : Int → Bool) (c : Cp) : Cp := if stB hs c = true then c.off else c
def sOne (hs : Int → Bool) (c : Cp) : Nat := if stB hs c = true then 1 else 0
set_option maxHeartbeats 1000000 in
theorem clean1_any {B : Nat} {w : World} {pv : Option Addr} {hs : Int → Bool} (h : Hs B w pv hs) (hB : B ≤ w.heap.size) (g q1 q2 : Nat) (T : TypeId) (l : List Cp) (i : Nat) (c : Cp) (k : Nat)
    (hg : At w g T (cat l).toArray) (hi : l[i]? = some c) (hc : c.cur < 4294967296) (h1 : At w q1 128 #[.func (.func 96) #[.agg #[.pointer pv]] #[]]) (h2 : At w q2 3 #[.int .i64 k]) (hk : k ≤ 1000000) (hgq : g ≠ q2) (hgB : B ≤ g) (hqB : B ≤ q2) :
    Calls Tryz.prog 124 #[.pointer (some ⟨g, i * 8, none⟩), .pointer (some ⟨q1, 0, none⟩), .pointer (some ⟨q2, 0, none⟩)] w fun r w' => (∃ v, r = .returned v) ∧ At w' g T (cat (l.set i (cln hs c))).toArray ∧ At w' q2 3 #[.int .i64 (k + sOne hs c : Nat)] ∧ Fr [g, q2] w w' := by
  have C := Lib.hid fun (W : World) (hW : W.heap = w.heap) => stale_any (h.hp (w' := W) hW) (by rw [hW]; exact hB) c hc
  obtain ⟨d0, d1, d2, d3, d4, d5, d6, d7⟩ := cat_cell hg i c hi
  have cq := h1.cell 0
  simp only [List.getElem?_toArray, List.getElem?_cons_zero] at cq
  have HG := Lib.hid hg
  have HI := Lib.hid hi
  have H2 := Lib.hid h2
  unfold Cp.cells at C
  have hl1 := hg.lt
  have hl2 := h1.lt
  unfold cln sOne
  by_cases hb : stB hs c = true
  · rw [hb] at C
    rw [if_pos hb, if_pos hb]
    clear h hg hi h1 h2 hb
    go_enter Tryz.func124, Tryz.ntmps124
    go_wp2_with fail
    go_region_held3 (fun w' => w'.cell? ⟨q1, 0, none⟩ = some (.func (.func 96) #[.agg #[.pointer pv]] #[]) ∧ w'.cell? ⟨g, i * 8, none⟩ = some (.int .u32 c.cur) ∧ w'.cell? ⟨g, i * 8 + 1, none⟩ = some (.int .u8 c.e) ∧ w'.cell? ⟨g, i * 8 + 2, none⟩ = some (.int .u16 c.b) ∧ w'.cell? ⟨g, i * 8 + 3, none⟩ = some (.int .u16 c.t) ∧ w'.cell? ⟨g, i * 8 + 4, none⟩ = some (.int .u16 c.pm) ∧ w'.cell? ⟨g, i * 8 + 5, none⟩ = some (.int .u16 c.ty) ∧ w'.cell? ⟨g, i * 8 + 6, none⟩ = some (.int .u32 c.rs) ∧ w'.cell? ⟨g, i * 8 + 7, none⟩ = some (.bool c.v)) (first | exact ⟨cq, d0, d1, d2, d3, d4, d5, d6, d7⟩ | exact dd | go_keep) ((go_at_call 96; refine (C.out _ (by rfl)).mono ?_; rintro e w5 ⟨rfl, hf5⟩; have keep : ∀ (a : Addr) (v : Value), w.cell? a = some v → w5.cell? a = some v := fun a v hv => (hf5.cell (a := a) (by exact lt_of_cell hv) (by simp)).trans hv; have dd := And.intro (keep _ _ cq) (And.intro (keep _ _ d0) (And.intro (keep _ _ d1) (And.intro (keep _ _ d2) (And.intro (keep _ _ d3) (And.intro (keep _ _ d4) (And.intro (keep _ _ d5) (And.intro (keep _ _ d6) (keep _ _ d7))))))))))
    all_goals
      have hf6 : Fr [] w w5 := hf5.hd rfl rfl rfl rfl
      have G5 := Lib.hid (HG.out.fr hf6 (by simp))
      have Q5 := Lib.hid (H2.out.fr hf6 (by simp))
      have F6 := Lib.hid hf6
      have e7 := dd.2.2.2.2.2.2.2.2
      have f7 := G5.out.froz (i * 8 + 7)
      have eq := Q5.out.cell 0
      have fq := Q5.out.froz 0
      simp only [List.getElem?_toArray, List.getElem?_cons_zero] at eq
      clear hf5 hf6 dd d0 d1 d2 d3 d4 d5 d6 d7 cq C
      go_wp2_with fail
      go_end0
    refine ⟨⟨_, rfl⟩, ?_, ?_, ((F6.out.more (T := [g, q2]) (by simp)).set (.inl (by simp)) _).set (.inl (by simp)) _⟩
    · have := (G5.out.set (i * 8 + 7) (.bool false)).far (show g ≠ q2 from hgq) (a := ⟨q2, 0, none⟩) (.int .i64 (k + 1))
      rw [List.setIfInBounds_toArray, cat_off l i c HI.out] at this
      exact this
    · exact (Q5.out.far (show q2 ≠ g from fun e => hgq e.symm) (a := ⟨g, i * 8 + 7, none⟩) (.bool false)).set 0 _
  · rw [Bool.not_eq_true] at hb
    rw [hb] at C ⊢
    simp only [Bool.false_eq_true, if_false, Nat.add_zero]
    clear h hg hi h1 h2 hb
    go_enter Tryz.func124, Tryz.ntmps124
    go_wp2_with fail
    go_region_held3 (fun w' => w'.cell? ⟨q1, 0, none⟩ = some (.func (.func 96) #[.agg #[.pointer pv]] #[]) ∧ w'.cell? ⟨g, i * 8, none⟩ = some (.int .u32 c.cur) ∧ w'.cell? ⟨g, i * 8 + 1, none⟩ = some (.int .u8 c.e) ∧ w'.cell? ⟨g, i * 8 + 2, none⟩ = some (.int .u16 c.b) ∧ w'.cell? ⟨g, i * 8 + 3, none⟩ = some (.int .u16 c.t) ∧ w'.cell? ⟨g, i * 8 + 4, none⟩ = some (.int .u16 c.pm) ∧ w'.cell? ⟨g, i * 8 + 5, none⟩ = some (.int .u16 c.ty) ∧ w'.cell? ⟨g, i * 8 + 6, none⟩ = some (.int .u32 c.rs) ∧ w'.cell? ⟨g, i * 8 + 7, none⟩ = some (.bool c.v)) (first | exact ⟨cq, d0, d1, d2, d3, d4, d5, d6, d7⟩ | exact dd | go_keep) ((go_at_call 96; refine (C.out _ (by rfl)).mono ?_; rintro e w5 ⟨rfl, hf5⟩; have keep : ∀ (a : Addr) (v : Value), w.cell? a = some v → w5.cell? a = some v := fun a v hv => (hf5.cell (a := a) (by exact lt_of_cell hv) (by simp)).trans hv; have dd := And.intro (keep _ _ cq) (And.intro (keep _ _ d0) (And.intro (keep _ _ d1) (And.intro (keep _ _ d2) (And.intro (keep _ _ d3) (And.intro (keep _ _ d4) (And.intro (keep _ _ d5) (And.intro (keep _ _ d6) (keep _ _ d7))))))))))
    all_goals
      have hf6 : Fr [] w w5 := hf5.hd rfl rfl rfl rfl
      have G5 := Lib.hid (HG.out.fr hf6 (by simp))
      have Q5 := Lib.hid (H2.out.fr hf6 (by simp))
      have F6 := Lib.hid hf6
      have e7 := dd.2.2.2.2.2.2.2.2
      have f7 := G5.out.froz (i * 8 + 7)
      have eq := Q5.out.cell 0
      have fq := Q5.out.froz 0
      simp only [List.getElem?_toArray, List.getElem?_cons_zero] at eq
      clear hf5 hf6 dd d0 d1 d2 d3 d4 d5 d6 d7 cq C
      go_wp2_with fail
      go_end0
    refine ⟨⟨_, rfl⟩, ?_, Q5.out, F6.out.more (by simp)⟩
    have hset : l.set i c = l := by
      obtain ⟨hlt, he⟩ := List.getElem?_eq_some_iff.1 HI.out
      rw [← he]; exact List.set_getElem_self hlt
    rw [hset]
    exact G5.out
end Go.Proofs.YthjbnbimfpbccaaGreatDoor
/-
  What scan.Caps does to a list of capabilities. Conditions: numbers in their types' ranges; a thousand capabilities at most.
-/




set_option linter.unusedVariables false
namespace Go.Proofs.YthjbnbimfpbccaaGreatDoor
open Go.ChangeShapes Go.WideShapes Go.ChangeAt Go.RowKit
/-- The first j cleaned. -/
def upto (hs : Int → Bool) (l : List Cp) (j : Nat) : List Cp := (l.take j).map (cln hs) ++ l.drop j
def sums (hs : Int → Bool) (l : List Cp) : Nat := (l.map (sOne hs)).sum
theorem upto_zero (hs : Int → Bool) (l : List Cp) : upto hs l 0 = l := by simp [upto]
theorem upto_len (hs : Int → Bool) (l : List Cp) (j : Nat) : (upto hs l j).length = l.length := by simp [upto]; omega
theorem upto_get (hs : Int → Bool) (l : List Cp) (j : Nat) (c : Cp) (h : l[j]? = some c) : (upto hs l j)[j]? = some c := by
  have hj := (List.getElem?_eq_some_iff.1 h).1
  unfold upto
  rw [List.getElem?_append_right (by simp; omega)]
  simp only [List.length_map, List.length_take, Nat.min_eq_left (Nat.le_of_lt hj), Nat.sub_self, List.getElem?_drop, Nat.add_zero]
  exact h
theorem upto_set (hs : Int → Bool) (l : List Cp) (j : Nat) (c : Cp) (h : l[j]? = some c) : (upto hs l j).set j (cln hs c) = upto hs l (j + 1) := by
  obtain ⟨hj, he⟩ := List.getElem?_eq_some_iff.1 h
  unfold upto
  rw [List.set_append_right _ _ (by simp; omega)]
  simp only [List.length_map, List.length_take, Nat.min_eq_left (Nat.le_of_lt hj), Nat.sub_self]
  rw [List.drop_eq_getElem_cons hj, List.set_cons_zero, List.take_succ_eq_append_getElem hj, List.map_append, List.append_assoc, he]
  rfl
theorem upto_all (hs : Int → Bool) (l : List Cp) : upto hs l l.length = l.map (cln hs) := by simp [upto]
theorem sums_succ (hs : Int → Bool) (l : List Cp) (j : Nat) (c : Cp) (h : l[j]? = some c) : sums hs (l.take (j + 1)) = sums hs (l.take j) + sOne hs c := by
  obtain ⟨hj, he⟩ := List.getElem?_eq_some_iff.1 h
  unfold sums
  rw [List.take_succ_eq_append_getElem hj, List.map_append, List.sum_append, he]
  simp
theorem sums_le (hs : Int → Bool) (l : List Cp) : sums hs l ≤ l.length := by
  unfold sums
  induction l with
  | nil => exact Nat.le_refl _
  | cons c l ih => rw [List.map_cons, List.sum_cons, List.length_cons]; unfold sOne at ih ⊢; split <;> omega
theorem scaps1_any {B : Nat} {w : World} {pv : Option Addr} {hs : Int → Bool} (h : Hs B w pv hs) (hB : B ≤ w.heap.size) (g q1 q2 cap : Nat) (T : TypeId) (l : List Cp)
    (hg : At w g T (cat l).toArray) (hc : ∀ c ∈ l, c.cur < 4294967296) (h1 : At w q1 128 #[.func (.func 96) #[.agg #[.pointer pv]] #[]]) (h2 : At w q2 3 #[.int .i64 0]) (hl : l.length ≤ 1000) (hgq : g ≠ q2) (hgB : B ≤ g) (hqB : B ≤ q2) (hq1 : q1 ≠ g) (hq2 : q1 ≠ q2) (hcap : l.length ≤ cap) :
    Calls Tryz.prog 90 #[.slice (some ⟨g, 0, none⟩) l.length cap, .func (.func 124) #[] #[.pointer (some ⟨q1, 0, none⟩), .pointer (some ⟨q2, 0, none⟩)]] w fun r w' => (∃ v, r = .returned v) ∧ At w' g T (cat (l.map (cln hs))).toArray ∧ At w' q2 3 #[.int .i64 (sums hs l : Nat)] ∧ Fr [g, q2] w w' := by
  have HH := Lib.hid h
  have HC := Lib.hid hc
  have H1 := Lib.hid h1
  have HG := Lib.hid hg
  have H2 := Lib.hid h2
  obtain ⟨n, hn⟩ : ∃ n, l.length = n := ⟨_, rfl⟩
  have HN := Lib.hid hn
  rw [hn] at hl hcap ⊢
  clear h hc h1 hg h2 hn
  go_enter Tryz.func90, Tryz.ntmps90
  go_wp2
  go_loopw [7] (fun v wr => ∃ j : Nat, j ≤ n ∧ v = .int .i64 j ∧ At wr g T (cat (upto hs l j)).toArray ∧ At wr q2 3 #[.int .i64 (sums hs (l.take j) : Nat)] ∧ Fr [g, q2] w wr) (fun v _ => n - (intOf v).toNat)
  case atStart => exact ⟨0, by omega, rfl, by rw [upto_zero]; exact HG.out, H2.out, Fr.refl _ _⟩
  case round =>
    clear HG H2
    obtain ⟨j, hj, rfl, hg, h2, hf⟩ := hrel
    have HG := Lib.hid hg
    have H2 := Lib.hid h2
    have HF := Lib.hid hf
    clear hg h2 hf
    by_cases hlt : j < n
    · obtain ⟨c, hcj⟩ : ∃ c, l[j]? = some c := ⟨_, List.getElem?_eq_getElem (by rw [HN.out]; exact hlt)⟩
      have hle := sums_le hs (l.take j)
      have hlj : (l.take j).length ≤ j := List.length_take_le _ _
      have C := Lib.hid (clean1_any (HH.out.fr HF.out (by simp; exact ⟨hgB, hqB⟩)) (Nat.le_trans hB HF.out.size) g q1 q2 T _ j c _ HG.out (upto_get hs l j c hcj) (HC.out c (List.mem_of_getElem? hcj)) (H1.out.fr HF.out (by simp; exact ⟨hq1, hq2⟩)) H2.out (by omega) hgq hgB hqB)
      rw [upto_set hs l j c hcj, ← sums_succ hs l j c hcj] at C
      clear hcj hle hlj
      go_wp2_with fail
      refine (C.out).mono ?_
      rintro e w5 ⟨⟨v, rfl⟩, g5, q5, f5⟩
      have G5 := Lib.hid g5
      have Q5 := Lib.hid q5
      have F5 := Lib.hid (HF.out.trans f5 (by simp))
      clear g5 q5 f5 C
      go_wp2_with fail
      go_roundw
      case rel => exact ⟨j + 1, by omega, by go_num, G5.out, Q5.out, F5.out⟩
      case measure => simp [intOf]; omega
    · obtain rfl : j = n := by omega
      have HU := Lib.hid (show upto hs l j = l.map (cln hs) by rw [← HN.out, upto_all])
      have HT := Lib.hid (show l.take j = l by rw [← HN.out, List.take_length])
      go_wp2_with fail
      go_end0
      refine ⟨⟨_, rfl⟩, by rw [← HU.out]; exact HG.out, by have := H2.out; rw [HT.out] at this; exact this, HF.out⟩
theorem sclean_any {B : Nat} {w : World} {pv : Option Addr} {hs : Int → Bool} (h : Hs B w pv hs) (g cap : Nat) (T : TypeId) (l : List Cp)
    (hg : At w g T (cat l).toArray) (hc : ∀ c ∈ l, c.cur < 4294967296) (hl : l.length ≤ 1000) (hgB : B ≤ g) (hcap : l.length ≤ cap) :
    Calls Tryz.prog 89 #[.slice (some ⟨g, 0, none⟩) l.length cap, .pointer pv, .func (.func 90) #[] #[]] w fun r w' => r = .returned (.int .i64 (sums hs l : Nat)) ∧ At w' g T (cat (l.map (cln hs))).toArray ∧ Fr [g] w w' := by
  have hlt := hg.lt
  have F0 : Fr [] w ((w.alloc (.cells #[.func (.func 96) #[.agg #[.pointer pv]] #[]] 128)).alloc (.cells #[.int .i64 0] 3)) := (by repeat (first | exact Fr.refl _ _ | assumption | refine Fr.trans0 ?_ (by assumption) | refine Fr.drewN ?_ _ | refine Fr.alloc ?_ _ | refine Fr.drew ?_))
  have A1 := (At.new w 128 #[.func (.func 96) #[.agg #[.pointer pv]] #[]]).old (.cells #[.int .i64 0] 3)
  have A2 := At.new (w.alloc (.cells #[.func (.func 96) #[.agg #[.pointer pv]] #[]] 128)) 3 #[.int .i64 0]
  rw [World.size_alloc] at A2
  have C := Lib.hid (scaps1_any (h.fr F0 (by simp)) (by have := F0.size; omega) g w.heap.size (w.heap.size + 1) cap T l (hg.fr F0 (by simp)) hc A1 A2 hl (by omega) hgB (by omega) (by omega) (by omega) hcap)
  have HF0 := Lib.hid F0
  obtain ⟨n, hn⟩ : ∃ n, l.length = n := ⟨_, rfl⟩
  obtain ⟨s, hs1⟩ : ∃ s, sums hs l = s := ⟨_, rfl⟩
  rw [hn] at C ⊢
  rw [hs1] at C ⊢
  clear h hg hc hl F0 A1 A2 hcap hn hs1
  go_enter Tryz.func89, Tryz.ntmps89
  go_wp2_with fail
  refine (C.out).mono ?_
  rintro e w5 ⟨⟨v, rfl⟩, g5, q5, f5⟩
  have c := q5.cell 0
  simp only [List.getElem?_toArray, List.getElem?_cons_zero] at c
  have G5 := Lib.hid g5
  have F5 := Lib.hid ((HF0.out.more (T := [g]) (by simp)).trans f5 (by simp))
  clear g5 q5 f5
  go_wp2_with fail
  go_ret
  exact ⟨rfl, G5.out, F5.out⟩
end Go.Proofs.YthjbnbimfpbccaaGreatDoor
/-
  What scan.Caps does to a list of capabilities. Conditions: numbers in their types' ranges; a thousand capabilities at most.
-/




set_option linter.unusedVariables false
namespace Go.Proofs.YthjbnbimfpbccaaGreatDoor
open Go.ChangeShapes Go.WideShapes Go.ChangeAt Go.RowKit
theorem infoCap : (Tryz.prog.info? 49).map (fun i => (i.zero, i.size, i.bytes)) = some (some (.agg noC.cells), 8, 24) := by kernel_rfl
theorem cat_one (l : List Cp) : ∀ v ∈ cat l, v.oneCell' = true := by
  intro v hv
  unfold cat at hv
  obtain ⟨c, _, hc⟩ := List.mem_flatMap.1 hv
  unfold Cp.l at hc
  simp only [List.mem_cons, List.not_mem_nil, or_false] at hc
  rcases hc with rfl | rfl | rfl | rfl | rfl | rfl | rfl | rfl <;> rfl
/-- Where a list of capabilities lies that came from somewhere. -/
def CapsIn (w : World) (a : Option Addr) (l : List Cp) : Prop := l = [] ∨ ∃ ad, a = some ad ∧ ∀ j v, (cat l)[j]? = some v → w.cell? (ad.add j) = some v
set_option maxRecDepth 100000 in
theorem scaps_any {B : Nat} {w : World} {pv : Option Addr} {hs : Int → Bool} (h : Hs B w pv hs) (hB : B ≤ w.heap.size) (a : Option Addr) (cap : Nat) (l : List Cp) (hin : CapsIn w a l) (hc : ∀ c ∈ l, c.cur < 4294967296) (hl : l.length ≤ 1000) :
    Calls Tryz.prog 42 #[.slice a l.length cap, .pointer pv] w fun r w' => ∃ g, r = .returned (.tuple #[.slice (some ⟨g, 0, none⟩) l.length l.length, .int .i64 (sums hs l : Nat)]) ∧ At w' g 49 (cat (l.map (cln hs))).toArray ∧ w.heap.size ≤ g ∧ Fr [] w w' := by
  obtain ⟨n, hn⟩ : ∃ n, l.length = n := ⟨_, rfl⟩
  have hmk := run_make_wide (P := Tryz.prog) 100 49 (.agg noC.cells) 8 24 Tryz.underlying100 infoCap .i64 .i64 n (by omega) (by omega)
  have A0 := At.new w 49 (madeCells noC.cells (n * 8))
  have F0 : Fr [] w (w.alloc (.cells (madeCells noC.cells (n * 8)) 49)) := (by repeat (first | exact Fr.refl _ _ | assumption | refine Fr.trans0 ?_ (by assumption) | refine Fr.drewN ?_ _ | refine Fr.alloc ?_ _ | refine Fr.drew ?_))
  have hsz : (madeCells noC.cells (n * 8)).size = n * 8 := size_madeCells _ _
  have hcl : (cat l).length = n * 8 := by rw [cat_len, hn]
  have hcp : ∃ w5, (Builtin.copy_ #[100, 100] 3 #[.slice (some ⟨w.heap.size, 0, none⟩) n n, .slice a n cap]).run Tryz.prog (w.alloc (.cells (madeCells noC.cells (n * 8)) 49)) = .ok (goInt n) w5 ∧ At w5 w.heap.size 49 (cat l).toArray ∧ Fr [] w w5 := by
    rcases hin with h0 | ⟨ad, rfl, had⟩
    · subst h0
      obtain rfl : 0 = n := hn
      refine ⟨_, run_copy_wide0 _ _ _ _ 49 _ _ _ _ Tryz.underlying100 (by kernel_rfl), ?_, F0⟩
      have e : madeCells noC.cells (0 * 8) = (cat []).toArray := Array.eq_empty_of_size_eq_zero (size_madeCells _ _)
      rw [← e]; exact A0
    · refine ⟨_, run_copy_wide _ _ _ _ 49 8 w.heap.size 0 n n ad cap (madeCells noC.cells (n * 8)) 49 (cat l) Tryz.underlying100 (by kernel_rfl) A0 hcl (fun j v hv => ?_) (by rw [hsz, hcl]; omega) (cat_one l), ?_, ?_⟩
      · exact (F0.cell (lt_of_cell (had j v hv)) (by simp)).trans (had j v hv)
      · have := setRow_heap (w.alloc (.cells (madeCells noC.cells (n * 8)) 49)) w.heap.size _ (cat l).toArray 49 (0, 0) A0
        rw [List.take_zero, List.nil_append, List.drop_eq_nil_of_le (by simp [hsz, hcl]), List.append_nil]
        exact this
      · refine ⟨rfl, rfl, rfl, by simp, fun k hk _ => ?_⟩
        rw [setRow_other _ _ _ _ (by omega)]
        exact Below.heap_alloc w _ k hk
  obtain ⟨w5, hcr, A5, F5⟩ := hcp
  have hHs := h.fr F5 (by simp)
  have C := Lib.hid (sclean_any hHs w.heap.size n 49 l A5 hc hl hB (by omega))
  have HCR := Lib.hid hcr
  obtain ⟨s, hs1⟩ : ∃ s, sums hs l = s := ⟨_, rfl⟩
  rw [hn, hs1] at C
  rw [hn, hs1]
  have HF5 := Lib.hid F5
  clear hcr A0 F0 hsz hcl hHs h hin hc hl hn hs1 A5 F5
  go_enter Tryz.func42, Tryz.ntmps42
  go_wp2_with (first | (go_at_call 89; refine (C.out).mono ?_; rintro e w6 ⟨rfl, h6, hf6⟩) | (refine wpList_copy_run rfl (.tmp 11) (.tmp 12) 100 100 rfl _ _ rfl rfl HCR.out ?_))
  go_ret2
  exact ⟨w.heap.size, rfl, h6, Nat.le_refl _, ⟨hf6.os.trans HF5.out.os, hf6.tape.trans HF5.out.tape, hf6.output.trans HF5.out.output, Nat.le_trans HF5.out.size hf6.size, fun k hk _ => (hf6.keep k (Nat.lt_of_lt_of_le hk HF5.out.size) (by simp; omega)).trans (HF5.out.keep k hk (by simp))⟩⟩
end Go.Proofs.YthjbnbimfpbccaaGreatDoor
/-
  The capabilities of layer 19's statements. Conditions: numbers in their types' ranges.
-/




set_option linter.unusedVariables false
namespace Go.Proofs.YthjbnbimfpbccaaGreatDoor
open Go.ChangeShapes Go.WideShapes Go.ChangeAt Go.RowKit
def ofC (a n : Nat) : Cp := if mkB a n 1 = true then mkC a n 1 else noC
theorem res_row {P : Program} {fn : Func} {p : Tmp} {ty : TypeId} (h : fn.results = #[.cell p ty]) (tmps : Array Value) (w : World) (g : Nat) (t : TypeId) (cs : Array Value) (d : TypeDesc)
    (hp : tmps.getD p undef = .pointer (some ⟨g, 0, none⟩)) (hg : At w g t cs)
    (hu : P.underlying ty = some d) (hd : (match d with | .struct _ | .array _ _ => true | _ => false) = true) (hi : (P.info? ty).map (·.size) = some cs.size) :
    (results fn tmps).run P w = .ok (.agg cs) w := results_cell_row h tmps w g t cs (0, 0) d hp hg hu hd hi
set_option maxHeartbeats 400000 in
set_option maxRecDepth 100000 in
theorem of_anyC (w : World) (a n : Nat) (ha : a < 4294967296) (hn : n < 4294967296) :
    Calls Tryz.prog 19 #[.int .u32 a, .int .u32 n] w fun r w' => r = .returned (.agg (ofC a n).cells) ∧ Fr [] w w' := by
  have C := Lib.hid fun W => make_any W a n 1 ha hn
  have A0 := At.new w 49 noC.cells
  have F0 : Fr [] w (w.alloc (.cells noC.cells 49)) := (by repeat (first | exact Fr.refl _ _ | assumption | refine Fr.trans0 ?_ (by assumption) | refine Fr.drewN ?_ _ | refine Fr.alloc ?_ _ | refine Fr.drew ?_))
  have A0 := Lib.hid A0
  have F0 := Lib.hid F0
  unfold ofC
  generalize mkB a n 1 = ok at *
  obtain ⟨c, hc⟩ : ∃ c, (if ok = true then mkC a n 1 else noC) = c := ⟨_, rfl⟩
  rw [hc] at C ⊢
  clear hc
  unfold noC Cp.cells at A0 F0
  unfold Cp.cells at C ⊢
  dsimp only [Int.cast_ofNat_Int] at A0 F0
  go_enter Tryz.func19, Tryz.ntmps19
  go_wp2_with fail
  refine (C.out _).mono ?_
  rintro e w2 ⟨rfl, hf2⟩
  have A2 := Lib.hid (A0.out.fr hf2 (by simp))
  have F2 := Lib.hid (F0.out.trans0 hf2)
  have hws := F2.out.size
  clear hf2 A0 F0 C
  have HI := Lib.hid (show (Tryz.prog.info? 49).map (·.size) = some 8 by kernel_rfl)
  have AO := Lib.hid (At.old A2.out (.cells #[Value.int .u32 c.cur, .int .u8 c.e, .int .u16 c.b, .int .u16 c.t, .int .u16 c.pm, .int .u16 c.ty, .int .u32 c.rs, .bool c.v] 49))
  have HO := Lib.hid (show (#[Value.int .u32 c.cur, .int .u8 c.e, .int .u16 c.b, .int .u16 c.t, .int .u16 c.pm, .int .u16 c.ty, .int .u32 c.rs, .bool c.v] : Array Value).all (·.oneCell') = true by simp [Value.oneCell'])
  go_upto_region 2 with (fail)
  go_wp2_with (first | (refine wpList_store_row rfl 49 (.tmp 4) (.tmp 14) rfl w.heap.size #[Value.int .u32 c.cur, .int .u8 c.e, .int .u16 c.b, .int .u16 c.t, .int .u16 c.pm, .int .u16 c.ty, .int .u32 c.rs, .bool c.v] rfl rfl 49 _ AO.out HI.out rfl HO.out ?_))
  refine bodyPost_ret (res_row rfl _ _ w.heap.size 49 #[Value.int .u32 c.cur, .int .u8 c.e, .int .u16 c.b, .int .u16 c.t, .int .u16 c.pm, .int .u16 c.ty, .int .u32 c.rs, .bool c.v] _ rfl (setRow_heap _ _ _ _ _ _ AO.out) Tryz.underlying49 rfl HI.out) rfl ⟨rfl, ?_⟩
  have F3 := F2.out.alloc (.cells #[Value.int .u32 c.cur, .int .u8 c.e, .int .u16 c.b, .int .u16 c.t, .int .u16 c.pm, .int .u16 c.ty, .int .u32 c.rs, .bool c.v] 49)
  exact ⟨F3.os, F3.tape, F3.output, by simpa using F3.size, fun k hk hS => by rw [setRow_other _ _ _ _ (by omega)]; exact F3.keep k hk hS⟩
end Go.Proofs.YthjbnbimfpbccaaGreatDoor
/-
  The states that the closed statement of layer 17 comes through, in plain words. Condition: two capabilities, of which just the first is stale.
-/







set_option linter.unusedVariables false
namespace Go.Proofs.YthjbnbimfpbccaaGreatDoor
open Go.ChangeShapes Go.WideShapes Go.ChangeAt Go.RowKit
def tgs (L : List Nat) : Nat → Bool := fun i => decide (i ∈ L)
theorem tgs_nil : (fun _ => false) = tgs [] := by funext i; unfold tgs; simp
theorem scF_tgs (bs : List Nat) (L : List Nat) (i : Nat) (c : Cp) (hb : bs.length = 4096) (hi : i < 256) (hv : (c.v && soundB c) = true) : scF bs (tgs L) (16 * i) c = tgs (i :: L) := by
  have hw : whB bs.length (16 * i) = true := by unfold whB; rw [hb]; simp; omega
  unfold scF stF wrF
  rw [if_pos hw, bytesC_len, if_pos ⟨by omega, by omega⟩, hv]
  funext j
  unfold upd putF
  rw [clr_get, show 16 * i / 16 = i by omega, show (16 * i + 16 - 1) / 16 = i by omega]
  by_cases h : j = i
  · rw [if_pos h]; unfold tgs; simp [h]
  · rw [if_neg h]
    unfold tgs
    by_cases h2 : i ≤ j
    · rw [decide_eq_false (show ¬ j < i + 1 by omega)]; simp [h]
    · rw [decide_eq_false h2]; simp [h]
theorem scL_sub (bs : List Nat) (i : Nat) (c : Cp) (hb : bs.length = 4096) (hi : i < 256) : sub (scL bs (16 * i) c) (16 * i) 16 = bytesC c := by
  have hw : whB bs.length (16 * i) = true := by unfold whB; rw [hb]; simp; omega
  unfold scL
  rw [if_pos hw]
  exact wrL_sub bs (16 * i) (bytesC c) (by rw [bytesC_len]; omega) 16 (bytesC_len c).symm
theorem scL_far (bs : List Nat) (i j : Nat) (c : Cp) (h : i ≠ j) : sub (scL bs (16 * i) c) (16 * j) 16 = sub bs (16 * j) 16 := by
  unfold scL
  split
  · exact wrL_sub_far bs (16 * i) (bytesC c) (16 * j) 16 (by rw [bytesC_len]; omega)
  · rfl
theorem pgT_tgs (bs : List Nat) (hs : Int → Bool) (L l L' : List Nat) (h : ∀ i, i ∈ L' ↔ i ∈ L ∧ ¬ (16 * i ∈ l ∧ sU bs hs (16 * i) = true)) : pgT bs hs (tgs L) l = tgs L' := by
  funext i
  unfold pgT tgs
  rw [Bool.eq_iff_iff]
  simp [h i]
structure Good2 (c d : Cp) (hs : Int → Bool) : Prop where
  cok : c.Ok
  dok : d.Ok
  cr : c.rs < 16777216
  dr : d.rs < 16777216
  cv : c.v = true
  dv : d.v = true
  cs : soundB c = true
  ds : soundB d = true
  ch : stB hs c = true
  dh : stB hs d = false
theorem ofB_self (c : Cp) (hok : c.Ok) (hr : c.rs < 16777216) (hv : c.v = true) (hs : soundB c = true) : ofB (bytesC c) true = c ∧ ofB (bytesC c) false = c.off := by
  have h1 := ofB_bytes c hok true hr
  have h2 := ofB_bytes c hok false hr
  rw [hs] at h1
  constructor
  · rw [h1]; rw [show (true && true) = c.v by rw [hv]; rfl]
  · rw [h2]; rfl
theorem sU_nohs (bs : List Nat) (a : Nat) : sU bs nohs a = false := by unfold sU stB nohs; exact Bool.and_false _
theorem states (c d : Cp) (hs : Int → Bool) (h : Good2 c d hs) (bs0 : List Nat) (h0 : bs0.length = 4096) : ∃ bs1 bs2 bs3 bs4 bs5 : List Nat,
    bs1.length = 4096 ∧ bs2.length = 4096 ∧ bs3.length = 4096 ∧ bs4.length = 4096 ∧ bs5.length = 4096 ∧
    scL bs0 32 c = bs1 ∧ scF bs0 (fun _ => false) 32 c = tgs [2] ∧ scL bs1 48 d = bs2 ∧ scF bs1 (tgs [2]) 48 d = tgs [3, 2] ∧
    pgN bs2 nohs (tgP 4096 (tgs [3, 2]) 0) = 0 ∧ pgT bs2 nohs (tgs [3, 2]) (tgP 4096 (tgs [3, 2]) 0) = tgs [3, 2] ∧
    pgN bs2 hs (tgP 4096 (tgs [3, 2]) 1) = 0 ∧ pgT bs2 hs (tgs [3, 2]) (tgP 4096 (tgs [3, 2]) 1) = tgs [3, 2] ∧
    pgN bs2 hs (tgP 4096 (tgs [3, 2]) 0) = 1 ∧ pgT bs2 hs (tgs [3, 2]) (tgP 4096 (tgs [3, 2]) 0) = tgs [3] ∧
    pgN bs2 hs (tgP 4096 (tgs [3]) 0) = 0 ∧ pgT bs2 hs (tgs [3]) (tgP 4096 (tgs [3]) 0) = tgs [3] ∧
    pgN bs2 hs (tgP 4096 (tgs [3]) (-1)) = 0 ∧ pgT bs2 hs (tgs [3]) (tgP 4096 (tgs [3]) (-1)) = tgs [3] ∧
    pgN bs2 hs (tgP 4096 (tgs [3]) 16) = 0 ∧ pgT bs2 hs (tgs [3]) (tgP 4096 (tgs [3]) 16) = tgs [3] ∧
    scL bs2 512 c = bs3 ∧ scF bs2 (tgs [3]) 512 c = tgs [32, 3] ∧ scL bs3 528 d = bs4 ∧ scF bs3 (tgs [32, 3]) 528 d = tgs [33, 32, 3] ∧ scL bs4 544 c = bs5 ∧ scF bs4 (tgs [33, 32, 3]) 544 c = tgs [34, 33, 32, 3] ∧
    pgN bs5 hs (tgP 4096 (tgs [34, 33, 32, 3]) 2) = 2 ∧ pgT bs5 hs (tgs [34, 33, 32, 3]) (tgP 4096 (tgs [34, 33, 32, 3]) 2) = tgs [33, 3] ∧
    tgP 4096 (tgs [33, 3]) 2 = [528] ∧ ldC bs5 (tgs [33, 3]) 32 = c.off ∧ ldC bs5 (tgs [33, 3]) 48 = d := by
  have hvc : (c.v && soundB c) = true := by rw [h.cv, h.cs]; rfl
  have hvd : (d.v && soundB d) = true := by rw [h.dv, h.ds]; rfl
  obtain ⟨oc, oc'⟩ := ofB_self c h.cok h.cr h.cv h.cs
  obtain ⟨od, -⟩ := ofB_self d h.dok h.dr h.dv h.ds
  have l1 : (scL bs0 (16 * 2) c).length = 4096 := by rw [scL_len, h0]
  have a1 := scL_sub bs0 2 c h0 (by omega)
  obtain ⟨bs1, e1⟩ : ∃ x, scL bs0 (16 * 2) c = x := ⟨_, rfl⟩
  rw [e1] at l1 a1
  have l2 : (scL bs1 (16 * 3) d).length = 4096 := by rw [scL_len, l1]
  have a2 := scL_sub bs1 3 d l1 (by omega)
  have a3 := (scL_far bs1 3 2 d (by omega)).trans a1
  obtain ⟨bs2, e2⟩ : ∃ x, scL bs1 (16 * 3) d = x := ⟨_, rfl⟩
  rw [e2] at l2 a2 a3
  have u2 : sU bs2 hs 32 = true := by unfold sU; rw [show (32 : Nat) = 16 * 2 from rfl, a3, oc]; exact h.ch
  have u3 : sU bs2 hs 48 = false := by unfold sU; rw [show (48 : Nat) = 16 * 3 from rfl, a2, od]; exact h.dh
  have l3 : (scL bs2 (16 * 32) c).length = 4096 := by rw [scL_len, l2]
  have b1 := scL_sub bs2 32 c l2 (by omega)
  have b2 := (scL_far bs2 32 2 c (by omega)).trans a3
  have b3 := (scL_far bs2 32 3 c (by omega)).trans a2
  obtain ⟨bs3, e3⟩ : ∃ x, scL bs2 (16 * 32) c = x := ⟨_, rfl⟩
  rw [e3] at l3 b1 b2 b3
  have l4 : (scL bs3 (16 * 33) d).length = 4096 := by rw [scL_len, l3]
  have c1 := scL_sub bs3 33 d l3 (by omega)
  have c2 := (scL_far bs3 33 32 d (by omega)).trans b1
  have c3 := (scL_far bs3 33 2 d (by omega)).trans b2
  have c4 := (scL_far bs3 33 3 d (by omega)).trans b3
  obtain ⟨bs4, e4⟩ : ∃ x, scL bs3 (16 * 33) d = x := ⟨_, rfl⟩
  rw [e4] at l4 c1 c2 c3 c4
  have l5 : (scL bs4 (16 * 34) c).length = 4096 := by rw [scL_len, l4]
  have d1 := scL_sub bs4 34 c l4 (by omega)
  have d2 := (scL_far bs4 34 33 c (by omega)).trans c1
  have d3 := (scL_far bs4 34 32 c (by omega)).trans c2
  have d4 := (scL_far bs4 34 2 c (by omega)).trans c3
  have d5 := (scL_far bs4 34 3 c (by omega)).trans c4
  obtain ⟨bs5, e5⟩ : ∃ x, scL bs4 (16 * 34) c = x := ⟨_, rfl⟩
  rw [e5] at l5 d1 d2 d3 d4 d5
  have v1 : sU bs5 hs 512 = true := by unfold sU; rw [show (512 : Nat) = 16 * 32 from rfl, d3, oc]; exact h.ch
  have v2 : sU bs5 hs 528 = false := by unfold sU; rw [show (528 : Nat) = 16 * 33 from rfl, d2, od]; exact h.dh
  have v3 : sU bs5 hs 544 = true := by unfold sU; rw [show (544 : Nat) = 16 * 34 from rfl, d1, oc]; exact h.ch
  have t1 : tgP 4096 (tgs [3, 2]) 0 = [32, 48] := by decide +kernel
  have t2 : tgP 4096 (tgs [3, 2]) 1 = [] := by decide +kernel
  have t3 : tgP 4096 (tgs [3]) 0 = [48] := by decide +kernel
  have t4 : tgP 4096 (tgs [3]) (-1) = [] := by decide +kernel
  have t5 : tgP 4096 (tgs [3]) 16 = [] := by decide +kernel
  have t6 : tgP 4096 (tgs [34, 33, 32, 3]) 2 = [512, 528, 544] := by decide +kernel
  have t7 : tgP 4096 (tgs [33, 3]) 2 = [528] := by decide +kernel
  have n0 : ∀ bs hs, pgN bs hs [] = 0 := fun _ _ => rfl
  refine ⟨bs1, bs2, bs3, bs4, bs5, l1, l2, l3, l4, l5, e1, ?_, e2, scF_tgs bs1 [2] 3 d l1 (by omega) hvd, ?_, ?_, ?_, ?_, ?_, ?_, ?_, ?_, ?_, ?_, ?_, ?_, e3, scF_tgs bs2 [3] 32 c l2 (by omega) hvc, e4, scF_tgs bs3 [32, 3] 33 d l3 (by omega) hvd, e5, scF_tgs bs4 [33, 32, 3] 34 c l4 (by omega) hvc, ?_, ?_, t7, ?_, ?_⟩
  · rw [tgs_nil]; exact scF_tgs bs0 [] 2 c h0 (by omega) hvc
  · rw [t1]; unfold pgN; simp [sU_nohs]
  · refine pgT_tgs bs2 nohs _ _ _ fun i => ?_
    rw [sU_nohs]; simp
  · rw [t2]; rfl
  · rw [t2, pgT_nil]
  · rw [t1]; unfold pgN; simp [u2, u3]
  · rw [t1]
    refine pgT_tgs bs2 hs _ _ _ fun i => ?_
    simp only [List.mem_cons, List.not_mem_nil, or_false]
    constructor
    · rintro rfl
      exact ⟨.inl rfl, fun hx => by rw [show 16 * 3 = 48 from rfl, u3] at hx; exact absurd hx.2 (by simp)⟩
    · rintro ⟨rfl | rfl, h2⟩
      · rfl
      · exact absurd ⟨.inl rfl, u2⟩ h2
  · rw [t3]; unfold pgN; simp [u3]
  · rw [t3]
    refine pgT_tgs bs2 hs _ _ _ fun i => ?_
    simp only [List.mem_cons, List.not_mem_nil, or_false]
    constructor
    · rintro rfl
      exact ⟨rfl, fun hx => by rw [show 16 * 3 = 48 from rfl, u3] at hx; exact absurd hx.2 (by simp)⟩
    · rintro ⟨rfl, h2⟩; rfl
  · rw [t4]; rfl
  · rw [t4, pgT_nil]
  · rw [t5]; rfl
  · rw [t5, pgT_nil]
  · rw [t6]; unfold pgN; simp [v1, v2, v3]
  · rw [t6]
    refine pgT_tgs bs5 hs _ _ _ fun i => ?_
    simp only [List.mem_cons, List.not_mem_nil, or_false]
    constructor
    · rintro (rfl | rfl)
      · exact ⟨.inr (.inl rfl), fun hx => by rw [show 16 * 33 = 528 from rfl, v2] at hx; exact absurd hx.2 (by simp)⟩
      · exact ⟨.inr (.inr (.inr rfl)), fun hx => by omega⟩
    · rintro ⟨rfl | rfl | rfl | rfl, h2⟩
      · exact absurd ⟨.inr (.inr rfl), v3⟩ h2
      · exact .inl rfl
      · exact absurd ⟨.inl rfl, v1⟩ h2
      · exact .inr rfl
  · unfold ldC
    rw [if_pos (by unfold whB; rw [l5]; decide), show (32 : Nat) = 16 * 2 from rfl, d4, show tgs [33, 3] (16 * 2 / 16) = false from by decide]
    exact oc'
  · unfold ldC
    rw [if_pos (by unfold whB; rw [l5]; decide), show (48 : Nat) = 16 * 3 from rfl, d5, show tgs [33, 3] (16 * 3 / 16) = true from by decide]
    exact od
end Go.Proofs.YthjbnbimfpbccaaGreatDoor
/-
  The sweeper of layer 19's statements; which pages are old, which tags go, in plain words. Condition: the table of math/bits is as the library lays it.
-/










set_option linter.unusedVariables false
namespace Go.Proofs.YthjbnbimfpbccaaGreatDoor
open Go.ChangeShapes Go.WideShapes Go.ChangeAt Go.RowKit
theorem cnt_none (f : Nat → Bool) : ∀ n, (∀ j, j < n → f j = false) → cnt f n = 0
  | 0, _ => rfl
  | n + 1, h => by simp [cnt, cnt_none f n (fun j hj => h j (by omega)), h n (by omega)]
theorem least (f : Nat → Bool) : ∀ n, (∀ j, j < n → f j = false) ∨ ∃ P, P < n ∧ f P = true ∧ ∀ j, j < P → f j = false
  | 0 => .inl (fun j hj => by omega)
  | n + 1 => by
    rcases least f n with h | ⟨P, h1, h2, h3⟩
    · cases hf : f n with
      | false =>
        refine .inl fun j hj => ?_
        by_cases e : j = n
        · rw [e]; exact hf
        · exact h j (by omega)
      | true => exact .inr ⟨n, by omega, hf, h⟩
    · exact .inr ⟨P, by omega, h2, h3⟩
theorem told_none (f : Nat → Bool) : ∀ n, (∀ j, j < n → f j = false) → told f n = []
  | 0, _ => rfl
  | n + 1, h => by rw [told_succ, h n (by omega), if_neg (by simp)]; exact told_none f n (fun j hj => h j (by omega))
theorem nxt_case (f : Nat → Bool) (n : Nat) : (nxtB f n = false ∧ nxtP f n = 0 ∧ cnt f n = 0 ∧ ∀ j, j < n → f j = false) ∨ ∃ P, P < n ∧ f P = true ∧ nxtP f n = P ∧ nxtB f n = true ∧ 0 < cnt f n ∧ ∀ j, j < P → f j = false := by
  rcases least f n with h | ⟨P, h1, h2, h3⟩
  · have := nxt_nil (told_none f n h)
    exact .inl ⟨this.2, this.1, cnt_none f n h, h⟩
  · have h4 : told f (P + 1) = [P] := by rw [told_succ, if_pos h2, told_none f P h3]; rfl
    have := nxt_one (h4 ▸ told_prefix f (P + 1) n (by omega))
    exact .inr ⟨P, h1, h2, this.1, this.2, cnt_pos f n P h1 h2, h3⟩
theorem cnt_clr (f : Nat → Bool) (i : Nat) (hf : f i = true) : ∀ n, cnt (upd f i false) n + (if i < n then 1 else 0) = cnt f n
  | 0 => by simp [cnt]
  | n + 1 => by
    have ih := cnt_clr f i hf n
    simp only [cnt]
    by_cases e : n = i
    · subst e
      rw [if_neg (by omega)] at ih
      have : upd f n false n = false := by simp [upd]
      simp [this, hf]; omega
    · have : upd f i false n = f n := by simp [upd, e]
      rw [this]
      by_cases h : i < n
      · rw [if_pos h] at ih; rw [if_pos (show i < n + 1 by omega)]; omega
      · rw [if_neg h] at ih; rw [if_neg (show ¬ i < n + 1 by omega)]; omega
theorem cnt_fst (n : Nat) : ∀ m, m ≤ n → cnt (fstF n) m = m
  | 0, _ => rfl
  | m + 1, h => by simp only [cnt, cnt_fst n m (by omega), fstF, decide_eq_true (show m < n by omega)]; rfl
/-- Pages from k on. -/
def frmF (k : Nat) : Nat → Bool := fun j => decide (k ≤ j) && decide (j < 16)
theorem frm_zero : fstF 16 = frmF 0 := by funext j; unfold fstF frmF; simp
theorem frm_upd (k : Nat) : upd (frmF k) k false = frmF (k + 1) := by
  funext j
  unfold upd frmF
  by_cases e : j = k
  · subst e; rw [if_pos rfl, decide_eq_false (by omega)]; rfl
  · rw [if_neg e]
    by_cases h : k ≤ j
    · rw [decide_eq_true h, decide_eq_true (show k + 1 ≤ j by omega)]
    · rw [decide_eq_false h, decide_eq_false (show ¬ k + 1 ≤ j by omega)]
theorem frm_at (k j : Nat) (h : k ≤ j) (hj : j < 16) : frmF k j = true := by unfold frmF; rw [decide_eq_true h, decide_eq_true hj]; rfl
theorem frm_nxt (k : Nat) (h : k < 16) : nxtP (frmF k) 16 = k ∧ nxtB (frmF k) 16 = true := by
  rcases nxt_case (frmF k) 16 with ⟨_, _, _, h4⟩ | ⟨P, h1, h2, h3, h4, _, h5⟩
  · have := h4 k h; rw [frm_at k k (Nat.le_refl _) h] at this; cases this
  · have : P = k := by
      unfold frmF at h2
      simp only [Bool.and_eq_true, decide_eq_true_eq] at h2
      rcases Nat.lt_or_ge k P with h6 | h6
      · have := h5 k h6; rw [frm_at k k (Nat.le_refl _) h] at this; cases this
      · omega
    subst this
    exact ⟨h3, h4⟩
theorem frm_end : cnt (frmF 16) 16 = 0 ∧ nxtB (frmF 16) 16 = false := by
  have h : ∀ j, j < 16 → frmF 16 j = false := fun j hj => by unfold frmF; rw [decide_eq_false (by omega)]; rfl
  exact ⟨cnt_none _ _ h, (nxt_nil (told_none _ _ h)).2⟩
section
variable (bs : List Nat) (hs : Int → Bool) (f : Nat → Bool) (P i : Nat) (hP : P < 16)
include hP
theorem pgT_at : pgT bs hs f (tgP 4096 f P) i = (f i && !(decide (i / 16 = P) && sU bs hs (16 * i))) := by
  unfold pgT
  have hm := tgP_mem 4096 f P i (by omega)
  cases hf : f i with
  | false => rfl
  | true =>
    by_cases h : i / 16 = P
    · rw [decide_eq_true (hm.2 ⟨h, hf⟩), decide_eq_true h]
    · rw [decide_eq_false (fun hx => h (hm.1 hx).1), decide_eq_false h]
end
theorem ofC_is (a n : Nat) (h1 : a + n ≤ 4294967296) (h2 : n ≤ 2048) (h3 : a < 4294967296) : ofC a n = mkC a n 1 ∧ (ofC a n).base = a ∧ (ofC a n).v = true ∧ (ofC a n).cur = a := by
  obtain ⟨e1, e2⟩ := small_exact a (a + n) (by omega) (by omega)
  have hb : mkB a n 1 = true := by unfold mkB; rw [e2]; simp; omega
  have e : ofC a n = mkC a n 1 := if_pos hb
  refine ⟨e, ?_, ?_, ?_⟩
  · rw [e]; exact (dec_exact a (a + n) a (by omega) h1 h3 e2 (Nat.le_refl _) (by omega)).1
  · rw [e]; rfl
  · rw [e]; rfl
theorem new_c (w : World) (n : Nat) (hn : n ≤ 16384) : Calls Tryz.prog 25 #[.int .i64 (16 * n : Nat)] w fun e w' => ∃ y s, e = .returned (.pointer (some ⟨y, 0, none⟩)) ∧ Yw w w' y ⟨n, 0, false, [], []⟩ s ∧ (w.heap.size ≤ s.c ∧ w.heap.size ≤ s.c') ∧ Fr [] w w' := by
  refine (qnew_any w n hn).mono ?_
  rintro e w' ⟨s, rfl, h1, rfl, h3, h4, h5, h6, h7, h8, ⟨h9, h10, h11⟩, h12⟩
  exact ⟨s.y, s, rfl, ⟨h1, h12, h9, h10, (fun g hg => by rw [h7] at hg; simp [Value.ownBlock] at hg), rfl, by unfold YS.ms; rw [h3, h4, h5, h6]⟩, ⟨h10, h11⟩, h12⟩
set_option maxRecDepth 100000 in
theorem begun_any (w : World) (hT : Tab w) : Calls Tryz.prog 7 #[] w fun r w' => ∃ i : Ids, r = .returned (.tuple #[.pointer (some ⟨i.ap, 0, none⟩), .pointer (some ⟨i.y, 0, none⟩), .pointer (some ⟨i.sp, 0, none⟩)]) ∧ On w w' i ⟨0, 0, fun _ => false, ⟨256, 0, false, [], []⟩, List.replicate 4096 0, fun _ => false, nohs⟩ ∧ w.heap.size ≤ i.ap := by
  have CA := Lib.hid (anew_any w 16 (by omega) (by omega))
  have CY := Lib.hid fun W => (show Calls Tryz.prog 25 #[.int .i64 4096] W fun e w' => ∃ y s, e = .returned (.pointer (some ⟨y, 0, none⟩)) ∧ Yw W w' y ⟨256, 0, false, [], []⟩ s ∧ (W.heap.size ≤ s.c ∧ W.heap.size ≤ s.c') ∧ Fr [] W w' from new_c W 256 (by omega))
  obtain ⟨B, hB⟩ : ∃ B, List.replicate 4096 0 = B := ⟨_, rfl⟩
  rw [show 256 * 16 = 4096 from rfl, hB] at CA
  rw [hB]
  have HL := Lib.hid (show B.length = 4096 by rw [← hB]; simp)
  have HT := Lib.hid hT
  clear hB hT
  go_enter Tryz.func7, Tryz.ntmps7
  go_wp2_with fail
  refine CA.out.mono ?_
  rintro e w1 ⟨ap, q, ag, bg, cap, rfl, ha, i1, i2, i3, i4, hf1⟩
  have HA := Lib.hid ha
  have F1 := Lib.hid hf1
  have hal := ha.lt
  clear ha hf1 CA
  go_wp2_with fail
  refine (CY.out _).mono ?_
  rintro e w2 ⟨y, s, rfl, hy, hfoot, hf2⟩
  have HY := Lib.hid (hy.base F1.out)
  have HC := Lib.hid (show w1.heap.size ≤ s.c ∧ w1.heap.size ≤ s.c' from hfoot)
  have F2 := Lib.hid hf2
  clear hy hfoot hf2 CY
  go_wp2_with fail
  refine (swnew_any w w2 ap q ag bg cap y B _ _ s (HA.out.fr0 F2.out) HL.out HY.out HT.out rfl rfl rfl i3 i4 (by have := HC.out; omega)).mono ?_
  rintro e w3 ⟨sp, gp, p, g, rfl, hs, hf3⟩
  have HS := Lib.hid hs
  clear hs
  go_wp2_with fail
  exact bodyPost_ret (v := .tuple #[.pointer (some ⟨ap, 0, none⟩), .pointer (some ⟨y, 0, none⟩), .pointer (some ⟨sp, 0, none⟩)]) (by simp [results, Tryz.results7, go_sem]) rfl ⟨_, rfl, ⟨_, _, HS.out⟩, i1⟩
end Go.Proofs.YthjbnbimfpbccaaGreatDoor
/-
  The reference's capabilities as bytes, and back. Condition: numbers in their types' ranges.
-/



set_option linter.unusedVariables false
namespace Go.Proofs.YthjbnbimfpbccaaGreatDoor
open Go.ChangeShapes Go.WideShapes Go.ChangeAt Go.RowKit
set_option maxHeartbeats 1000000 in
set_option maxRecDepth 100000 in
theorem rsound_any (w : World) (c : Cp) : Calls Tryz.prog 75 #[.agg c.cells] w fun r w' => r = .returned (.bool (soundB c)) ∧ Fr [] w w' := by
  have A0 := At.new w 49 c.cells
  have HF := Lib.hid (show Fr [] w (w.alloc (.cells c.cells 49)) from (by repeat (first | exact Fr.refl _ _ | assumption | refine Fr.trans0 ?_ (by assumption) | refine Fr.drewN ?_ _ | refine Fr.alloc ?_ _ | refine Fr.drew ?_)))
  have c1 := A0.cell 1
  have c2 := A0.cell 2
  have c3 := A0.cell 3
  have c4 := A0.cell 4
  have c5 := A0.cell 5
  have c6 := A0.cell 6
  obtain ⟨cur, e, b, t, pm, ty, rs, v⟩ := c
  unfold Cp.cells at *
  simp only [List.getElem?_toArray, List.getElem?_cons_zero, List.getElem?_cons_succ] at c1 c2 c3 c4 c5 c6
  clear A0
  by_cases h0 : e < 22
  · have d0 : decide ((e : Int) ≤ 21) = true := decide_eq_true (by omega)
    by_cases h1 : b < 4096
    · have d1 : decide ((b : Int) < 4096) = true := decide_eq_true (by omega)
      by_cases h2 : t < 4096
      · have d2 : decide ((t : Int) < 4096) = true := decide_eq_true (by omega)
        by_cases h3 : pm < 256
        · have d3 : decide ((pm : Int) ≤ 255) = true := decide_eq_true (by omega)
          by_cases h4 : ty < 4096
          · have d4 : decide ((ty : Int) < 4096) = true := decide_eq_true (by omega)
            by_cases h5 : rs < 16777216
            · have d5 : decide ((rs : Int) < 16777216) = true := decide_eq_true (by omega)
              have hs : soundB ⟨cur, e, b, t, pm, ty, rs, v⟩ = true := (soundB_iff _).2 ⟨h0, h1, h2, h3, h4, h5⟩
              rw [hs]
              clear hs h0 h1 h2 h3 h4 h5
              go_enter Tryz.func75, Tryz.ntmps75
              go_wp2_with fail
              go_ret
              exact ⟨rfl, HF.out⟩
            · have d5 : decide ((rs : Int) < 16777216) = false := decide_eq_false (by omega)
              have hs : soundB ⟨cur, e, b, t, pm, ty, rs, v⟩ = false := by rw [← Bool.not_eq_true, soundB_iff]; rintro ⟨s0, s1, s2, s3, s4, s5⟩; dsimp only at *; omega
              rw [hs]
              clear hs h0 h1 h2 h3 h4 h5
              go_enter Tryz.func75, Tryz.ntmps75
              go_wp2_with fail
              go_ret
              exact ⟨rfl, HF.out⟩
          · have d4 : decide ((ty : Int) < 4096) = false := decide_eq_false (by omega)
            have hs : soundB ⟨cur, e, b, t, pm, ty, rs, v⟩ = false := by rw [← Bool.not_eq_true, soundB_iff]; rintro ⟨s0, s1, s2, s3, s4, s5⟩; dsimp only at *; omega
            rw [hs]
            clear hs h0 h1 h2 h3 h4
            go_enter Tryz.func75, Tryz.ntmps75
            go_wp2_with fail
            go_ret
            exact ⟨rfl, HF.out⟩
        · have d3 : decide ((pm : Int) ≤ 255) = false := decide_eq_false (by omega)
          have hs : soundB ⟨cur, e, b, t, pm, ty, rs, v⟩ = false := by rw [← Bool.not_eq_true, soundB_iff]; rintro ⟨s0, s1, s2, s3, s4, s5⟩; dsimp only at *; omega
          rw [hs]
          clear hs h0 h1 h2 h3
          go_enter Tryz.func75, Tryz.ntmps75
          go_wp2_with fail
          go_ret
          exact ⟨rfl, HF.out⟩
      · have d2 : decide ((t : Int) < 4096) = false := decide_eq_false (by omega)
        have hs : soundB ⟨cur, e, b, t, pm, ty, rs, v⟩ = false := by rw [← Bool.not_eq_true, soundB_iff]; rintro ⟨s0, s1, s2, s3, s4, s5⟩; dsimp only at *; omega
        rw [hs]
        clear hs h0 h1 h2
        go_enter Tryz.func75, Tryz.ntmps75
        go_wp2_with fail
        go_ret
        exact ⟨rfl, HF.out⟩
    · have d1 : decide ((b : Int) < 4096) = false := decide_eq_false (by omega)
      have hs : soundB ⟨cur, e, b, t, pm, ty, rs, v⟩ = false := by rw [← Bool.not_eq_true, soundB_iff]; rintro ⟨s0, s1, s2, s3, s4, s5⟩; dsimp only at *; omega
      rw [hs]
      clear hs h0 h1
      go_enter Tryz.func75, Tryz.ntmps75
      go_wp2_with fail
      go_ret
      exact ⟨rfl, HF.out⟩
  · have d0 : decide ((e : Int) ≤ 21) = false := decide_eq_false (by omega)
    have hs : soundB ⟨cur, e, b, t, pm, ty, rs, v⟩ = false := by rw [← Bool.not_eq_true, soundB_iff]; rintro ⟨s0, s1, s2, s3, s4, s5⟩; dsimp only at *; omega
    rw [hs]
    clear hs h0
    go_enter Tryz.func75, Tryz.ntmps75
    go_wp2_with fail
    go_ret
    exact ⟨rfl, HF.out⟩
theorem built1b (w : World) (x : Int) : (Instr.buildSlice 22 1 #[(0, .int .u8 x)]).run Tryz.prog w = .ok (.slice (some ⟨w.heap.size, 0, none⟩) 1 1) (w.alloc (.cells #[.int .u8 x] 5)) := by kernel_rfl
theorem infoU8b : (Tryz.prog.info? 5).map (fun i => (i.zero, i.size, i.bytes)) = some (some (.int .u8 0), 1, 1) := by kernel_rfl
theorem le_snoc : ∀ (k v : Nat), le (k + 1) v = le k v ++ [v / 256 ^ k % 256]
  | 0, v => by simp [le]
  | k + 1, v => by
    have ih := le_snoc k (v / 256)
    rw [le, ih, le, List.cons_append, Nat.div_div_eq_div_mul, Nat.pow_succ, Nat.mul_comm (256 ^ k) 256]
theorem le_put (l : List Nat) (k n : Nat) : bys (l ++ le k n) ++ [.int .u8 ((n / 256 ^ k % 256 : Nat) : Int)] = bys (l ++ le (k + 1) n) := by
  rw [le_snoc, ← List.append_assoc, bys_append (l ++ le k n)]; rfl
set_option maxHeartbeats 1000000 in
set_option maxRecDepth 100000 in
theorem rlaid_any (w0 w : World) (hf : Fr [] w0 w) (v : Value) (l : List Nat) (hv : w.ownsRow w0.heap.size 5 1 v l.length (bys l)) (hl : l.length ≤ 100) (n k : Nat) (hn : n < 4294967296) (hk : k ≤ 4) :
    Calls Tryz.prog 111 #[v, .int .u32 n, .int .i64 k] w fun e w' => ∃ v', e = .returned v' ∧ w'.ownsRow w0.heap.size 5 1 v' (l.length + k) (bys (l ++ le k n)) ∧ Fr [] w0 w' := by
  obtain ⟨i0, hi, hz0, hz1, hz2⟩ := info_parts infoU8b
  obtain ⟨m, hm⟩ : ∃ m, l.length = m := ⟨_, rfl⟩
  rw [hm] at hv hl ⊢
  have HV := Lib.hid hv
  have HF0 := Lib.hid hf
  clear hm hv hf
  go_enter Tryz.func111, Tryz.ntmps111
  go_wp2_with fail
  go_loopw [0, 7] (fun b i wr => ∃ j : Nat, j ≤ k ∧ i = .int .i64 j ∧ wr.ownsRow w0.heap.size 5 1 b (m + j) (bys (l ++ le j n)) ∧ Fr [] w0 wr) (fun _ i _ => k - (intOf i).toNat)
  case atStart => exact ⟨0, by omega, rfl, by simpa [le] using HV.out, HF0.out⟩
  case round =>
    clear HV HF0
    obtain ⟨j, hj, rfl, ho, hf⟩ := hrel
    have HO := Lib.hid ho
    have HF := Lib.hid hf
    obtain ⟨va, vc, rfl, -⟩ := own_slice ho
    clear ho hf
    by_cases hjk : j < k
    · rcases (show j = 0 ∨ j = 1 ∨ j = 2 ∨ j = 3 by omega) with rfl | rfl | rfl | rfl
      · have hd : (n : Int) % 256 = ((n / 256 ^ 0 % 256 : Nat) : Int) := by omega
        have HLE := Lib.hid (show bys (l ++ le 0 n) ++ [.int .u8 ((n / 256 ^ 0 % 256 : Nat) : Int)] = bys (l ++ le (0 + 1) n) from le_put l _ n)
        obtain ⟨d, hdd⟩ : ∃ d : Nat, n / 256 ^ 0 % 256 = d := ⟨_, rfl⟩
        rw [hdd] at hd HLE
        clear hdd
        have HAL := Lib.hid (show At (wr.alloc (.cells #[.int .u8 (d : Int)] 5)) wr.heap.size 5 #[.int .u8 (d : Int)] from At.new _ _ _)
        have OY := Lib.hid (own_fr0 HO.out ((Fr.refl [] wr).alloc (.cells #[.int .u8 (d : Int)] 5)))
        have hm : m + 0 ≤ 104 := by omega
        have hsz := HF.out.size
        go_wp2_with (first | (refine wpList_buildSlice rfl 22 1 _ _ _ _ (built1b _ _) rfl (by simp [go_sem]) ?_) | (at_builtin; refine wpList_append_own_at _ rfl (.tmp 13) (.tmp 19) 22 rfl w0.heap.size 5 i0 (.int .u8 0) 1 1 Tryz.underlying22 hi hz0 hz1 hz2 rfl (by omega) (.slice va (m + 0) vc) (m + 0) _ rfl OY.out ⟨wr.heap.size, 0, none⟩ 1 1 [.int .u8 (d : Int)] rfl rfl (fun j u hu => by rw [Go.WideShapes.add_plain, Nat.zero_add, HAL.out.cell]; simpa using hu) (fun u hu => by simp at hu; subst hu; rfl) (by unfold maxLen; omega) (by omega) (by simp <;> omega) ?_; intro v9 w9 hown9 hg9 hnil9 hat9))
        have G9 := Lib.hid (Fr.app (HF.out.alloc (.cells #[.int .u8 (d : Int)] 5)) hg9 OY.out (Nat.le_refl _))
        rw [HLE.out] at hown9
        have O9 := Lib.hid hown9
        clear hown9 hg9 hnil9 hat9 HAL OY hm
        go_roundw
        case rel => exact ⟨0 + 1, by omega, by first | rfl | go_num, O9.out, G9.out⟩
        case measure => simp [intOf] <;> omega
      · have hd : (n : Int) / 256 % 256 = ((n / 256 ^ 1 % 256 : Nat) : Int) := by omega
        have HLE := Lib.hid (show bys (l ++ le 1 n) ++ [.int .u8 ((n / 256 ^ 1 % 256 : Nat) : Int)] = bys (l ++ le (1 + 1) n) from le_put l _ n)
        obtain ⟨d, hdd⟩ : ∃ d : Nat, n / 256 ^ 1 % 256 = d := ⟨_, rfl⟩
        rw [hdd] at hd HLE
        clear hdd
        have HAL := Lib.hid (show At (wr.alloc (.cells #[.int .u8 (d : Int)] 5)) wr.heap.size 5 #[.int .u8 (d : Int)] from At.new _ _ _)
        have OY := Lib.hid (own_fr0 HO.out ((Fr.refl [] wr).alloc (.cells #[.int .u8 (d : Int)] 5)))
        have hm : m + 1 ≤ 104 := by omega
        have hsz := HF.out.size
        go_wp2_with (first | (refine wpList_buildSlice rfl 22 1 _ _ _ _ (built1b _ _) rfl (by simp [go_sem]) ?_) | (at_builtin; refine wpList_append_own_at _ rfl (.tmp 13) (.tmp 19) 22 rfl w0.heap.size 5 i0 (.int .u8 0) 1 1 Tryz.underlying22 hi hz0 hz1 hz2 rfl (by omega) (.slice va (m + 1) vc) (m + 1) _ rfl OY.out ⟨wr.heap.size, 0, none⟩ 1 1 [.int .u8 (d : Int)] rfl rfl (fun j u hu => by rw [Go.WideShapes.add_plain, Nat.zero_add, HAL.out.cell]; simpa using hu) (fun u hu => by simp at hu; subst hu; rfl) (by unfold maxLen; omega) (by omega) (by simp <;> omega) ?_; intro v9 w9 hown9 hg9 hnil9 hat9))
        have G9 := Lib.hid (Fr.app (HF.out.alloc (.cells #[.int .u8 (d : Int)] 5)) hg9 OY.out (Nat.le_refl _))
        rw [HLE.out] at hown9
        have O9 := Lib.hid hown9
        clear hown9 hg9 hnil9 hat9 HAL OY hm
        go_roundw
        case rel => exact ⟨1 + 1, by omega, by first | rfl | go_num, O9.out, G9.out⟩
        case measure => simp [intOf] <;> omega
      · have hd : (n : Int) / 65536 % 256 = ((n / 256 ^ 2 % 256 : Nat) : Int) := by omega
        have HLE := Lib.hid (show bys (l ++ le 2 n) ++ [.int .u8 ((n / 256 ^ 2 % 256 : Nat) : Int)] = bys (l ++ le (2 + 1) n) from le_put l _ n)
        obtain ⟨d, hdd⟩ : ∃ d : Nat, n / 256 ^ 2 % 256 = d := ⟨_, rfl⟩
        rw [hdd] at hd HLE
        clear hdd
        have HAL := Lib.hid (show At (wr.alloc (.cells #[.int .u8 (d : Int)] 5)) wr.heap.size 5 #[.int .u8 (d : Int)] from At.new _ _ _)
        have OY := Lib.hid (own_fr0 HO.out ((Fr.refl [] wr).alloc (.cells #[.int .u8 (d : Int)] 5)))
        have hm : m + 2 ≤ 104 := by omega
        have hsz := HF.out.size
        go_wp2_with (first | (refine wpList_buildSlice rfl 22 1 _ _ _ _ (built1b _ _) rfl (by simp [go_sem]) ?_) | (at_builtin; refine wpList_append_own_at _ rfl (.tmp 13) (.tmp 19) 22 rfl w0.heap.size 5 i0 (.int .u8 0) 1 1 Tryz.underlying22 hi hz0 hz1 hz2 rfl (by omega) (.slice va (m + 2) vc) (m + 2) _ rfl OY.out ⟨wr.heap.size, 0, none⟩ 1 1 [.int .u8 (d : Int)] rfl rfl (fun j u hu => by rw [Go.WideShapes.add_plain, Nat.zero_add, HAL.out.cell]; simpa using hu) (fun u hu => by simp at hu; subst hu; rfl) (by unfold maxLen; omega) (by omega) (by simp <;> omega) ?_; intro v9 w9 hown9 hg9 hnil9 hat9))
        have G9 := Lib.hid (Fr.app (HF.out.alloc (.cells #[.int .u8 (d : Int)] 5)) hg9 OY.out (Nat.le_refl _))
        rw [HLE.out] at hown9
        have O9 := Lib.hid hown9
        clear hown9 hg9 hnil9 hat9 HAL OY hm
        go_roundw
        case rel => exact ⟨2 + 1, by omega, by first | rfl | go_num, O9.out, G9.out⟩
        case measure => simp [intOf] <;> omega
      · have hd : (n : Int) / 16777216 % 256 = ((n / 256 ^ 3 % 256 : Nat) : Int) ∧ (n : Int) / 16777216 = ((n / 256 ^ 3 % 256 : Nat) : Int) := by omega
        have HLE := Lib.hid (show bys (l ++ le 3 n) ++ [.int .u8 ((n / 256 ^ 3 % 256 : Nat) : Int)] = bys (l ++ le (3 + 1) n) from le_put l _ n)
        obtain ⟨d, hdd⟩ : ∃ d : Nat, n / 256 ^ 3 % 256 = d := ⟨_, rfl⟩
        rw [hdd] at hd HLE
        clear hdd
        have HAL := Lib.hid (show At (wr.alloc (.cells #[.int .u8 (d : Int)] 5)) wr.heap.size 5 #[.int .u8 (d : Int)] from At.new _ _ _)
        have OY := Lib.hid (own_fr0 HO.out ((Fr.refl [] wr).alloc (.cells #[.int .u8 (d : Int)] 5)))
        have hm : m + 3 ≤ 104 := by omega
        have hsz := HF.out.size
        go_wp2_with (first | (refine wpList_buildSlice rfl 22 1 _ _ _ _ (built1b _ _) rfl (by simp [go_sem]) ?_) | (at_builtin; refine wpList_append_own_at _ rfl (.tmp 13) (.tmp 19) 22 rfl w0.heap.size 5 i0 (.int .u8 0) 1 1 Tryz.underlying22 hi hz0 hz1 hz2 rfl (by omega) (.slice va (m + 3) vc) (m + 3) _ rfl OY.out ⟨wr.heap.size, 0, none⟩ 1 1 [.int .u8 (d : Int)] rfl rfl (fun j u hu => by rw [Go.WideShapes.add_plain, Nat.zero_add, HAL.out.cell]; simpa using hu) (fun u hu => by simp at hu; subst hu; rfl) (by unfold maxLen; omega) (by omega) (by simp <;> omega) ?_; intro v9 w9 hown9 hg9 hnil9 hat9))
        have G9 := Lib.hid (Fr.app (HF.out.alloc (.cells #[.int .u8 (d : Int)] 5)) hg9 OY.out (Nat.le_refl _))
        rw [HLE.out] at hown9
        have O9 := Lib.hid hown9
        clear hown9 hg9 hnil9 hat9 HAL OY hm
        go_roundw
        case rel => exact ⟨3 + 1, by omega, by first | rfl | go_num, O9.out, G9.out⟩
        case measure => simp [intOf] <;> omega
    · obtain rfl : j = k := by omega
      go_wp2_with fail
      go_ret
      exact ⟨_, rfl, HO.out, HF.out⟩
theorem le3 (n : Nat) : le 3 n = le 2 (n % 65536) ++ le 1 (n / 65536 % 256) := by
  simp only [le, List.cons_append, List.nil_append]
  refine List.cons_eq_cons.2 ⟨by omega, List.cons_eq_cons.2 ⟨by omega, List.cons_eq_cons.2 ⟨by omega, rfl⟩⟩⟩
set_option maxHeartbeats 1000000 in
set_option maxRecDepth 100000 in
theorem rbytes_any (w : World) (c : Cp) (hc : c.Ok) : Calls Tryz.prog 74 #[.agg c.cells] w fun e w' => e = .returned (strV (bytesC c)) ∧ Fr [] w w' := by
  have hBL := bytesC_len c
  have A0 := At.new w 49 c.cells
  have F0 := (show Fr [] w (w.alloc (.cells c.cells 49)) from (by repeat (first | exact Fr.refl _ _ | assumption | refine Fr.trans0 ?_ (by assumption) | refine Fr.drewN ?_ _ | refine Fr.alloc ?_ _ | refine Fr.drew ?_)))
  obtain ⟨k0, k1, k2, k3, k4, k5, k6⟩ := hc
  have HB : Hid ([] ++ le 4 c.cur ++ le 1 c.e ++ le 2 c.b ++ le 2 c.t ++ le 2 c.pm ++ le 2 c.ty ++ le 3 c.rs = bytesC c) := Lib.hid (by unfold bytesC; rw [le3]; simp)
  have HBT := Lib.hid (show Byt (bytesC c) from by
    unfold bytesC
    exact (((((((le_byt _ _).append (le_byt _ _)).append (le_byt _ _)).append (le_byt _ _)).append (le_byt _ _)).append (le_byt _ _)).append (le_byt _ _)).append (le_byt _ _))
  obtain ⟨S, hS⟩ : ∃ S, bytesC c = S := ⟨_, rfl⟩
  rw [hS] at HB HBT hBL ⊢
  have HBL := Lib.hid hBL
  clear hS hBL
  obtain ⟨cur, e, b, t, pm, ty, rs, v⟩ := c
  unfold Cp.cells at *
  dsimp only at *
  obtain ⟨w1, hw1⟩ : ∃ W, w.alloc (.cells #[.int .u32 cur, .int .u8 e, .int .u16 b, .int .u16 t, .int .u16 pm, .int .u16 ty, .int .u32 rs, .bool v] 49) = W := ⟨_, rfl⟩
  rw [hw1] at A0 F0
  have hql := A0.lt
  have c0 := A0.cell 0
  have c1 := A0.cell 1
  have c2 := A0.cell 2
  have c3 := A0.cell 3
  have c4 := A0.cell 4
  have c5 := A0.cell 5
  have c6 := A0.cell 6
  simp only [List.getElem?_toArray, List.getElem?_cons_zero, List.getElem?_cons_succ] at c0 c1 c2 c3 c4 c5 c6
  have C := Lib.hid (And.intro c0 (And.intro c1 (And.intro c2 (And.intro c3 (And.intro c4 (And.intro c5 c6))))))
  have HF0 := Lib.hid F0
  clear c1 c2 c3 c4 c5 c6 A0 F0
  have O0 := Lib.hid (show w1.ownsRow w1.heap.size 5 1 (.slice none 0 0) ([] : List Nat).length (bys []) from World.ownsRow_nil _ _ _ _)
  have F0 := Lib.hid (Fr.refl [] w1)
  have N0 := Lib.hid (show ([] : List Nat).length = 0 from rfl)
  go_enter Tryz.func74, Tryz.ntmps74
  go_wp2_with fail
  refine (rlaid_any w1 w1 F0.out (.slice none 0 0) ([] : List Nat) O0.out (by rw [N0.out]; omega) cur 4 (by omega) (by omega)).mono ?_
  rintro e_ x1 ⟨v1, rfl, ho, hf⟩
  have O1 := Lib.hid (show x1.ownsRow w1.heap.size 5 1 v1 (([] : List Nat) ++ le 4 cur).length (bys (([] : List Nat) ++ le 4 cur)) from by rw [List.length_append, le_len]; exact ho)
  have F1 := Lib.hid hf
  have N1 := Lib.hid (show (([] : List Nat) ++ le 4 cur).length = 4 from by rw [List.length_append, le_len, N0.out])
  have c1 := (hf.cell (a := ⟨w.heap.size, 1, none⟩) hql (by simp)).trans C.out.2.1
  clear ho hf O0 F0 N0 c0
  go_wp2_with fail
  refine (rlaid_any w1 x1 F1.out v1 (([] : List Nat) ++ le 4 cur) O1.out (by rw [N1.out]; omega) e 1 (by omega) (by omega)).mono ?_
  rintro e_ x2 ⟨v2, rfl, ho, hf⟩
  have O2 := Lib.hid (show x2.ownsRow w1.heap.size 5 1 v2 (([] : List Nat) ++ le 4 cur ++ le 1 e).length (bys (([] : List Nat) ++ le 4 cur ++ le 1 e)) from by rw [List.length_append, le_len]; exact ho)
  have F2 := Lib.hid hf
  have N2 := Lib.hid (show (([] : List Nat) ++ le 4 cur ++ le 1 e).length = 5 from by rw [List.length_append, le_len, N1.out])
  have c2 := (hf.cell (a := ⟨w.heap.size, 2, none⟩) hql (by simp)).trans C.out.2.2.1
  clear ho hf O1 F1 N1 c1
  go_wp2_with fail
  refine (rlaid_any w1 x2 F2.out v2 (([] : List Nat) ++ le 4 cur ++ le 1 e) O2.out (by rw [N2.out]; omega) b 2 (by omega) (by omega)).mono ?_
  rintro e_ x3 ⟨v3, rfl, ho, hf⟩
  have O3 := Lib.hid (show x3.ownsRow w1.heap.size 5 1 v3 (([] : List Nat) ++ le 4 cur ++ le 1 e ++ le 2 b).length (bys (([] : List Nat) ++ le 4 cur ++ le 1 e ++ le 2 b)) from by rw [List.length_append, le_len]; exact ho)
  have F3 := Lib.hid hf
  have N3 := Lib.hid (show (([] : List Nat) ++ le 4 cur ++ le 1 e ++ le 2 b).length = 7 from by rw [List.length_append, le_len, N2.out])
  have c3 := (hf.cell (a := ⟨w.heap.size, 3, none⟩) hql (by simp)).trans C.out.2.2.2.1
  clear ho hf O2 F2 N2 c2
  go_wp2_with fail
  refine (rlaid_any w1 x3 F3.out v3 (([] : List Nat) ++ le 4 cur ++ le 1 e ++ le 2 b) O3.out (by rw [N3.out]; omega) t 2 (by omega) (by omega)).mono ?_
  rintro e_ x4 ⟨v4, rfl, ho, hf⟩
  have O4 := Lib.hid (show x4.ownsRow w1.heap.size 5 1 v4 (([] : List Nat) ++ le 4 cur ++ le 1 e ++ le 2 b ++ le 2 t).length (bys (([] : List Nat) ++ le 4 cur ++ le 1 e ++ le 2 b ++ le 2 t)) from by rw [List.length_append, le_len]; exact ho)
  have F4 := Lib.hid hf
  have N4 := Lib.hid (show (([] : List Nat) ++ le 4 cur ++ le 1 e ++ le 2 b ++ le 2 t).length = 9 from by rw [List.length_append, le_len, N3.out])
  have c4 := (hf.cell (a := ⟨w.heap.size, 4, none⟩) hql (by simp)).trans C.out.2.2.2.2.1
  clear ho hf O3 F3 N3 c3
  go_wp2_with fail
  refine (rlaid_any w1 x4 F4.out v4 (([] : List Nat) ++ le 4 cur ++ le 1 e ++ le 2 b ++ le 2 t) O4.out (by rw [N4.out]; omega) pm 2 (by omega) (by omega)).mono ?_
  rintro e_ x5 ⟨v5, rfl, ho, hf⟩
  have O5 := Lib.hid (show x5.ownsRow w1.heap.size 5 1 v5 (([] : List Nat) ++ le 4 cur ++ le 1 e ++ le 2 b ++ le 2 t ++ le 2 pm).length (bys (([] : List Nat) ++ le 4 cur ++ le 1 e ++ le 2 b ++ le 2 t ++ le 2 pm)) from by rw [List.length_append, le_len]; exact ho)
  have F5 := Lib.hid hf
  have N5 := Lib.hid (show (([] : List Nat) ++ le 4 cur ++ le 1 e ++ le 2 b ++ le 2 t ++ le 2 pm).length = 11 from by rw [List.length_append, le_len, N4.out])
  have c5 := (hf.cell (a := ⟨w.heap.size, 5, none⟩) hql (by simp)).trans C.out.2.2.2.2.2.1
  clear ho hf O4 F4 N4 c4
  go_wp2_with fail
  refine (rlaid_any w1 x5 F5.out v5 (([] : List Nat) ++ le 4 cur ++ le 1 e ++ le 2 b ++ le 2 t ++ le 2 pm) O5.out (by rw [N5.out]; omega) ty 2 (by omega) (by omega)).mono ?_
  rintro e_ x6 ⟨v6, rfl, ho, hf⟩
  have O6 := Lib.hid (show x6.ownsRow w1.heap.size 5 1 v6 (([] : List Nat) ++ le 4 cur ++ le 1 e ++ le 2 b ++ le 2 t ++ le 2 pm ++ le 2 ty).length (bys (([] : List Nat) ++ le 4 cur ++ le 1 e ++ le 2 b ++ le 2 t ++ le 2 pm ++ le 2 ty)) from by rw [List.length_append, le_len]; exact ho)
  have F6 := Lib.hid hf
  have N6 := Lib.hid (show (([] : List Nat) ++ le 4 cur ++ le 1 e ++ le 2 b ++ le 2 t ++ le 2 pm ++ le 2 ty).length = 13 from by rw [List.length_append, le_len, N5.out])
  have c6 := (hf.cell (a := ⟨w.heap.size, 6, none⟩) hql (by simp)).trans C.out.2.2.2.2.2.2
  clear ho hf O5 F5 N5 c5
  go_wp2_with fail
  refine (rlaid_any w1 x6 F6.out v6 (([] : List Nat) ++ le 4 cur ++ le 1 e ++ le 2 b ++ le 2 t ++ le 2 pm ++ le 2 ty) O6.out (by rw [N6.out]; omega) rs 3 (by omega) (by omega)).mono ?_
  rintro e_ x7 ⟨v7, rfl, ho, hf⟩
  have O7 := Lib.hid (show x7.ownsRow w1.heap.size 5 1 v7 (([] : List Nat) ++ le 4 cur ++ le 1 e ++ le 2 b ++ le 2 t ++ le 2 pm ++ le 2 ty ++ le 3 rs).length (bys (([] : List Nat) ++ le 4 cur ++ le 1 e ++ le 2 b ++ le 2 t ++ le 2 pm ++ le 2 ty ++ le 3 rs)) from by rw [List.length_append, le_len]; exact ho)
  have F7 := Lib.hid hf
  have N7 := Lib.hid (show (([] : List Nat) ++ le 4 cur ++ le 1 e ++ le 2 b ++ le 2 t ++ le 2 pm ++ le 2 ty ++ le 3 rs).length = 16 from by rw [List.length_append, le_len, N6.out])
  clear ho hf O6 F6 N6 c6
  have O8 := O7.out
  rw [HB.out, HBL.out] at O8
  obtain ⟨va, vc, rfl, hvc⟩ := own_slice O8
  obtain ⟨g, c', e1, -, -, hgl, hcl, -⟩ := own_open O8 (by omega)
  injection e1 with e1 e2 e3
  subst e1 e3
  have HIN : Hid (BIn x7 (some ⟨g, 0, none⟩) S) := Lib.hid (.inr ⟨g, 0, rfl, hgl, fun j u hu => by rw [Nat.zero_add, hcl j (by have := (List.getElem?_eq_some_iff.1 hu).1; rw [bys_len, HBL.out] at this; exact this)]; exact hu⟩)
  have F7' := Lib.hid (HF0.out.trans0 F7.out)
  clear O7 O8 N7 F7 hcl
  go_wp2_with (refine wpList_str rfl ⟨5, Tryz.underlying22, Tryz.underlying5⟩ Tryz.underlying9 (.tmp 37) rfl _ 16 vc rfl S HBL.out HBT.out HIN.out (fun h => by cases h) ?_)
  go_ret
  exact ⟨rfl, F7'.out⟩
end Go.Proofs.YthjbnbimfpbccaaGreatDoor
/-
  The reference's capabilities from bytes. Condition: numbers in their types' ranges.
-/



set_option linter.unusedVariables false
namespace Go.Proofs.YthjbnbimfpbccaaGreatDoor
open Go.ChangeShapes Go.WideShapes Go.ChangeAt Go.RowKit
theorem unle_snoc : ∀ (l : List Nat) (b : Nat), unle (l ++ [b]) = unle l + 256 ^ l.length * b
  | [], b => by simp [unle]
  | a :: l, b => by
    have ih := unle_snoc l b
    rw [List.cons_append, unle, ih, unle, List.length_cons, Nat.pow_succ, Nat.mul_add, Nat.mul_comm (256 ^ l.length) 256, Nat.mul_assoc, Nat.add_assoc]
theorem or_low (n b k : Nat) (hn : n < 2 ^ k) (h : b * 2 ^ k + n < 4294967296) : bits .or .u32 (n : Int) ((b * 2 ^ k : Nat) : Int) = ((n + b * 2 ^ k : Nat) : Int) := by
  rw [u32_or_nat _ _ (by omega) (by omega), Nat.or_comm, Nat.mul_comm b, ← Nat.two_pow_add_eq_or_of_lt hn, Nat.add_comm]
theorem sub_snoc (l : List Nat) (p j b : Nat) (h : l[p + j]? = some b) : sub l p (j + 1) = sub l p j ++ [b] := by
  unfold sub
  rw [List.take_add_one, List.getElem?_drop, h]; rfl
theorem sub_len (l : List Nat) (p j : Nat) (h : p + j ≤ l.length) : (sub l p j).length = j := by unfold sub; rw [List.length_take, List.length_drop]; omega
theorem sub_byt (l : List Nat) (p j : Nat) (h : Byt l) : Byt (sub l p j) := (h.drop p).take j
theorem tk_or (l : List Nat) (hb : Byt l) (p j b : Nat) (h : l[p + j]? = some b) (hj : j < 4) : bits .or .u32 ((unle (sub l p j) : Nat) : Int) ((b * 256 ^ j : Nat) : Int) = ((unle (sub l p (j + 1)) : Nat) : Int) := by
  have hlt := (List.getElem?_eq_some_iff.1 h).1
  have hl := sub_len l p j (by omega)
  have h1 := unle_lt _ (sub_byt l p j hb)
  have h2 := hb.at_ _ _ h
  rw [hl] at h1
  rw [sub_snoc l p j b h, unle_snoc, hl]
  have e : (256 : Nat) ^ j = 2 ^ (8 * j) := by rw [Nat.pow_mul]
  rw [e] at h1 ⊢
  have h3 : b * 2 ^ (8 * j) + unle (sub l p j) < 4294967296 := by
    have h4 : (b + 1) * 2 ^ (8 * j) ≤ 256 * 2 ^ (8 * j) := Nat.mul_le_mul_right _ (by omega)
    have h5 : (2 : Nat) ^ (8 * j) ≤ 16777216 := by
      rcases (show j = 0 ∨ j = 1 ∨ j = 2 ∨ j = 3 by omega) with rfl | rfl | rfl | rfl <;> decide
    rw [Nat.add_mul] at h4
    omega
  rw [or_low _ _ _ h1 h3, Nat.mul_comm b]
theorem BS_at (l : List Nat) (hb : Byt l) (i b : Nat) (hi : l[i]? = some b) (h : i < (BS l).size) : ((BS l)[i]'h).toNat = b := by
  obtain ⟨h1, h2⟩ := List.getElem?_eq_some_iff.1 hi
  have e : (BS l)[i]'h = UInt8.ofNat l[i] := by
    show ((l.map UInt8.ofNat).toArray)[i]'(by simpa using h1) = _
    rw [List.getElem_toArray, List.getElem_map]
  rw [e, u8_back _ (hb _ (List.getElem_mem h1)), h2]
set_option maxHeartbeats 1000000 in
set_option maxRecDepth 100000 in
theorem rtaken_any (w : World) (l : List Nat) (hb : Byt l) (p k : Nat) (hk : k ≤ 4) (ha : p + k ≤ l.length) (hl : l.length ≤ 1000) :
    Calls Tryz.prog 150 #[strV l, .int .i64 p, .int .i64 k] w fun r w' => r = .returned (.int .u32 (unle (sub l p k) : Nat)) ∧ w = w' := by
  have HB := Lib.hid hb
  have hsz := BS_size l
  unfold strV
  obtain ⟨n, hn⟩ : ∃ n, l.length = n := ⟨_, rfl⟩
  have HN := Lib.hid hn
  rw [hn] at ha hl hsz
  have HIX := Lib.hid (fun i b (hi : l[i]? = some b) (h : i < (BS l).size) => BS_at l hb i b hi h)
  obtain ⟨S, hS⟩ : ∃ S, BS l = S := ⟨_, rfl⟩
  rw [hS] at hsz HIX ⊢
  clear hb hS hn
  have hsb : S.size ≤ 1000 := by omega
  go_enter Tryz.func150, Tryz.ntmps150
  go_wp2_with fail
  go_loopw [7, 8] (fun v i wr => ∃ j : Nat, j ≤ k ∧ i = .int .i64 j ∧ v = .int .u32 (unle (sub l p j) : Nat) ∧ w = wr) (fun _ i _ => k - (intOf i).toNat)
  case atStart => exact ⟨0, by omega, rfl, rfl, rfl⟩
  case round =>
    obtain ⟨j, hj, rfl, rfl, rfl⟩ := hrel
    by_cases hjk : j < k
    · obtain ⟨b, hlb⟩ : ∃ b, l[p + j]? = some b := ⟨_, List.getElem?_eq_getElem (by rw [HN.out]; omega)⟩
      have hix := HIX.out (p + j) b hlb
      have hb8 := HB.out.at_ _ _ hlb
      have HV := Lib.hid (tk_or l HB.out p j b hlb (by omega))
      clear hlb
      rcases (show j = 0 ∨ j = 1 ∨ j = 2 ∨ j = 3 by omega) with rfl | rfl | rfl | rfl
      · simp only [Nat.add_zero] at hix
        have HV' := Lib.hid (show bits .or .u32 ((unle (sub l p 0) : Nat) : Int) (b : Int) = ((unle (sub l p (0 + 1)) : Nat) : Int) from by rw [← HV.out]; simp)
        go_wp2_with fail
        go_roundw
        case rel => exact ⟨0 + 1, by omega, rfl, by rw [← HV'.out], trivial⟩
        case measure => simp [intOf] <;> omega
      · have HV' := Lib.hid (show bits .or .u32 ((unle (sub l p 1) : Nat) : Int) ((b : Int) * 256) = ((unle (sub l p (1 + 1)) : Nat) : Int) from by rw [← HV.out]; simp)
        go_wp2_with fail
        go_roundw
        case rel => exact ⟨1 + 1, by omega, rfl, by rw [← HV'.out], trivial⟩
        case measure => simp [intOf] <;> omega
      · have HV' := Lib.hid (show bits .or .u32 ((unle (sub l p 2) : Nat) : Int) ((b : Int) * 65536) = ((unle (sub l p (2 + 1)) : Nat) : Int) from by rw [← HV.out]; simp)
        go_wp2_with fail
        go_roundw
        case rel => exact ⟨2 + 1, by omega, rfl, by rw [← HV'.out], trivial⟩
        case measure => simp [intOf] <;> omega
      · have HV' := Lib.hid (show bits .or .u32 ((unle (sub l p 3) : Nat) : Int) ((b : Int) * 16777216) = ((unle (sub l p (3 + 1)) : Nat) : Int) from by rw [← HV.out]; simp)
        go_wp2_with fail
        go_roundw
        case rel => exact ⟨3 + 1, by omega, rfl, by rw [← HV'.out], trivial⟩
        case measure => simp [intOf] <;> omega
    · obtain rfl : j = k := by omega
      go_wp2_with fail
      go_ret
      exact ⟨rfl, rfl⟩
theorem rs_three (l : List Nat) (hb : Byt l) (hl : l.length = 16) : unle (sub l 13 3) = fld l 13 2 + 65536 * fld l 15 1 := by
  obtain ⟨b13, h13⟩ : ∃ b, l[13]? = some b := ⟨_, List.getElem?_eq_getElem (by omega)⟩
  obtain ⟨b14, h14⟩ : ∃ b, l[14]? = some b := ⟨_, List.getElem?_eq_getElem (by omega)⟩
  obtain ⟨b15, h15⟩ : ∃ b, l[15]? = some b := ⟨_, List.getElem?_eq_getElem (by omega)⟩
  have s0 : ∀ p, sub l p 0 = [] := fun p => by unfold sub; simp
  have e3 : sub l 13 3 = [b13, b14, b15] := by rw [sub_snoc l 13 2 b15 h15, sub_snoc l 13 1 b14 h14, sub_snoc l 13 0 b13 h13, s0]; rfl
  have e2 : sub l 13 2 = [b13, b14] := by rw [sub_snoc l 13 1 b14 h14, sub_snoc l 13 0 b13 h13, s0]; rfl
  have e1 : sub l 15 1 = [b15] := by rw [sub_snoc l 15 0 b15 h15, s0]; rfl
  show _ = unle (sub l 13 2) + 65536 * unle (sub l 15 1)
  rw [e3, e2, e1]
  simp only [unle]
  omega
set_option maxHeartbeats 2000000 in
set_option maxRecDepth 100000 in
theorem rof_any (w : World) (l : List Nat) (hb : Byt l) (hl : l.length = 16) (v : Bool) : Calls Tryz.prog 137 #[strV l, .bool v] w fun r w' => r = .returned (.tuple #[.agg (ofB l v).cells, .bool true]) ∧ Fr [] w w' := by
  have T0 := Lib.hid fun W => rtaken_any W l hb 0 4 (by omega) (by omega) (by omega)
  have T1 := Lib.hid fun W => rtaken_any W l hb 4 1 (by omega) (by omega) (by omega)
  have T2 := Lib.hid fun W => rtaken_any W l hb 5 2 (by omega) (by omega) (by omega)
  have T3 := Lib.hid fun W => rtaken_any W l hb 7 2 (by omega) (by omega) (by omega)
  have T4 := Lib.hid fun W => rtaken_any W l hb 9 2 (by omega) (by omega) (by omega)
  have T5 := Lib.hid fun W => rtaken_any W l hb 11 2 (by omega) (by omega) (by omega)
  have T6 := Lib.hid fun W => rtaken_any W l hb 13 3 (by omega) (by omega) (by omega)
  have b0 := unle_lt _ (sub_byt l 0 4 hb)
  have b1 := unle_lt _ (sub_byt l 4 1 hb)
  have b2 := unle_lt _ (sub_byt l 5 2 hb)
  have b3 := unle_lt _ (sub_byt l 7 2 hb)
  have b4 := unle_lt _ (sub_byt l 9 2 hb)
  have b5 := unle_lt _ (sub_byt l 11 2 hb)
  have b6 := unle_lt _ (sub_byt l 13 3 hb)
  rw [sub_len l _ _ (by omega)] at b0 b1 b2 b3 b4 b5 b6
  have HR := rs_three l hb hl
  have HO : ofB0 l = ⟨unle (sub l 0 4), unle (sub l 4 1), unle (sub l 5 2), unle (sub l 7 2), unle (sub l 9 2), unle (sub l 11 2), unle (sub l 13 3), false⟩ := by unfold ofB0; rw [HR]; rfl
  obtain ⟨x0, h0⟩ : ∃ x, unle (sub l 0 4) = x := ⟨_, rfl⟩
  obtain ⟨x1, h1⟩ : ∃ x, unle (sub l 4 1) = x := ⟨_, rfl⟩
  obtain ⟨x2, h2⟩ : ∃ x, unle (sub l 5 2) = x := ⟨_, rfl⟩
  obtain ⟨x3, h3⟩ : ∃ x, unle (sub l 7 2) = x := ⟨_, rfl⟩
  obtain ⟨x4, h4⟩ : ∃ x, unle (sub l 9 2) = x := ⟨_, rfl⟩
  obtain ⟨x5, h5⟩ : ∃ x, unle (sub l 11 2) = x := ⟨_, rfl⟩
  obtain ⟨x6, h6⟩ : ∃ x, unle (sub l 13 3) = x := ⟨_, rfl⟩
  rw [h0, h1, h2, h3, h4, h5, h6] at HO
  rw [h0] at T0 b0
  rw [h1] at T1 b1
  rw [h2] at T2 b2
  rw [h3] at T3 b3
  rw [h4] at T4 b4
  rw [h5] at T5 b5
  rw [h6] at T6 b6
  have HE := Lib.hid (show (ofB l v).cells = #[.int .u32 x0, .int .u8 x1, .int .u16 x2, .int .u16 x3, .int .u16 x4, .int .u16 x5, .int .u32 x6, .bool (v && soundB ⟨x0, x1, x2, x3, x4, x5, x6, false⟩)] from by unfold ofB; rw [HO]; rfl)
  have CS := Lib.hid fun W => (show Calls Tryz.prog 75 #[.agg #[.int .u32 x0, .int .u8 x1, .int .u16 x2, .int .u16 x3, .int .u16 x4, .int .u16 x5, .int .u32 x6, .bool false]] W fun r w' => r = .returned (.bool (soundB ⟨x0, x1, x2, x3, x4, x5, x6, false⟩)) ∧ Fr [] W w' from rsound_any W ⟨x0, x1, x2, x3, x4, x5, x6, false⟩)
  obtain ⟨sb, hsb⟩ : ∃ sb, soundB ⟨x0, x1, x2, x3, x4, x5, x6, false⟩ = sb := ⟨_, rfl⟩
  rw [hsb] at HE CS
  rw [HE.out]
  have hsz : (BS l).size = 16 := by rw [BS_size, hl]
  unfold strV at *
  obtain ⟨S, hS⟩ : ∃ S, BS l = S := ⟨_, rfl⟩
  rw [hS] at T0 T1 T2 T3 T4 T5 T6 hsz
  rw [hS]
  have c1 : x1 < 256 := b1
  have c2 : x2 < 65536 := b2
  have c3 : x3 < 65536 := b3
  have c4 : x4 < 65536 := b4
  have c5 : x5 < 65536 := b5
  have c0 : x0 < 4294967296 := b0
  have c6 : x6 < 16777216 := b6
  have hss : (S.size : Int) = 16 := by omega
  clear h0 h1 h2 h3 h4 h5 h6 hsb HR HO hS hb hl b0 b1 b2 b3 b4 b5 b6 hsz
  obtain ⟨w1, hw1⟩ : ∃ W, w.alloc (.cells #[.int .u32 0, .int .u8 0, .int .u16 0, .int .u16 0, .int .u16 0, .int .u16 0, .int .u32 0, .bool false] 49) = W := ⟨_, rfl⟩
  have A1 := At.new w 49 #[.int .u32 0, .int .u8 0, .int .u16 0, .int .u16 0, .int .u16 0, .int .u16 0, .int .u32 0, .bool false]
  have F1 : Fr [] w (w.alloc (.cells #[.int .u32 0, .int .u8 0, .int .u16 0, .int .u16 0, .int .u16 0, .int .u16 0, .int .u32 0, .bool false] 49)) := (by repeat (first | exact Fr.refl _ _ | assumption | refine Fr.trans0 ?_ (by assumption) | refine Fr.drewN ?_ _ | refine Fr.alloc ?_ _ | refine Fr.drew ?_))
  have hs1 : w1.heap.size = w.heap.size + 1 := by rw [← hw1]; exact World.size_alloc _ _
  rw [hw1] at A1 F1
  have HA1 := Lib.hid A1
  have HF1 := Lib.hid F1
  have HW1 := Lib.hid hw1
  clear A1 F1 hw1
  go_enter Tryz.func137, Tryz.ntmps137
  go_wp2_with fail
  rw [HW1.out]
  refine (T0.out _).mono ?_
  rintro e w' ⟨rfl, rfl⟩
  go_wp2_with fail
  refine (T1.out _).mono ?_
  rintro e w' ⟨rfl, rfl⟩
  go_wp2_with fail
  refine (T2.out _).mono ?_
  rintro e w' ⟨rfl, rfl⟩
  go_wp2_with fail
  refine (T3.out _).mono ?_
  rintro e w' ⟨rfl, rfl⟩
  go_wp2_with fail
  refine (T4.out _).mono ?_
  rintro e w' ⟨rfl, rfl⟩
  go_wp2_with fail
  refine (T5.out _).mono ?_
  rintro e w' ⟨rfl, rfl⟩
  go_wp2_with fail
  refine (T6.out _).mono ?_
  rintro e w' ⟨rfl, rfl⟩
  go_upto_region 4 with (fail)
  have A2 := HA1.out.old (.cells #[.int .u32 x0, .int .u8 x1, .int .u16 x2, .int .u16 x3, .int .u16 x4, .int .u16 x5, .int .u32 x6, .bool false] 49)
  have B2 := At.new w1 49 #[.int .u32 x0, .int .u8 x1, .int .u16 x2, .int .u16 x3, .int .u16 x4, .int .u16 x5, .int .u32 x6, .bool false]
  have F2 : Fr [] w (w1.alloc (.cells #[.int .u32 x0, .int .u8 x1, .int .u16 x2, .int .u16 x3, .int .u16 x4, .int .u16 x5, .int .u32 x6, .bool false] 49)) := HF1.out.alloc _
  obtain ⟨w2, hw2⟩ : ∃ W, w1.alloc (.cells #[.int .u32 x0, .int .u8 x1, .int .u16 x2, .int .u16 x3, .int .u16 x4, .int .u16 x5, .int .u32 x6, .bool false] 49) = W := ⟨_, rfl⟩
  rw [hw2] at A2 B2 F2
  rw [hs1] at B2
  have HA2 := Lib.hid A2
  have HB2 := Lib.hid B2
  have HF2 := Lib.hid F2
  have HW2 := Lib.hid hw2
  clear A2 B2 F2 hw2 HA1 HF1 T0 T1 T2 T3 T4 T5 T6
  rw [HW2.out]
  have HI := Lib.hid (show (Tryz.prog.info? 49).map (·.size) = some 8 by kernel_rfl)
  cases v with
  | false =>
    have c7' := (HB2.out).cell 7
    have z7 := (HB2.out).froz 7
    simp only [List.getElem?_toArray, List.getElem?_cons_zero, List.getElem?_cons_succ] at c7'
    have B5 : At ((w2).setCell ⟨w.heap.size + 1, 7, none⟩ (.bool false)) (w.heap.size + 1) 49 #[.int .u32 x0, .int .u8 x1, .int .u16 x2, .int .u16 x3, .int .u16 x4, .int .u16 x5, .int .u32 x6, .bool false] := (HB2.out).set 7 (.bool false)
    have A5 := (HA2.out).far (a := ⟨w.heap.size + 1, 7, none⟩) (by simp) (.bool false)
    have F5 := (HF2.out).set (a := ⟨w.heap.size + 1, 7, none⟩) (.inr (by simp)) (.bool false)
    obtain ⟨w5, hw5⟩ : ∃ W, (w2).setCell ⟨w.heap.size + 1, 7, none⟩ (.bool false) = W := ⟨_, rfl⟩
    rw [hw5] at B5 A5 F5
    have HA5 := Lib.hid A5
    have HB5 := Lib.hid B5
    have HF5 := Lib.hid F5
    have HW5 := Lib.hid hw5
    clear A5 B5 F5 hw5
    go_upto_region 5 with (fail)
    rw [HW5.out]
    go_wp2_with (first | (refine wpList_load_all (by rfl) 49 (.tmp 6) rfl (w.heap.size + 1) rfl 49 #[.int .u32 x0, .int .u8 x1, .int .u16 x2, .int .u16 x3, .int .u16 x4, .int .u16 x5, .int .u32 x6, .bool false] _ HB5.out Tryz.underlying49 rfl HI.out ?_) | (refine wpList_store_all (by rfl) 49 (.tmp 4) (.tmp 37) rfl w.heap.size #[.int .u32 x0, .int .u8 x1, .int .u16 x2, .int .u16 x3, .int .u16 x4, .int .u16 x5, .int .u32 x6, .bool false] rfl rfl 49 #[.int .u32 0, .int .u8 0, .int .u16 0, .int .u16 0, .int .u16 0, .int .u16 0, .int .u32 0, .bool false] HA5.out HI.out rfl (by simp [Value.oneCell']) ?_; intro w9 hA9 hF9))
    exact bodyPost_ret (res_row_tmp rfl _ _ w.heap.size 49 _ _ rfl hA9 Tryz.underlying49 rfl HI.out) rfl ⟨rfl, HF5.out.trans hF9 (by simp)⟩
  | true =>
    go_wp2_with (refine wpList_load_all (by rfl) 49 (.tmp 6) rfl (w.heap.size + 1) rfl 49 #[.int .u32 x0, .int .u8 x1, .int .u16 x2, .int .u16 x3, .int .u16 x4, .int .u16 x5, .int .u32 x6, .bool false] _ HB2.out Tryz.underlying49 rfl HI.out ?_)
    refine (CS.out _).mono ?_
    rintro e w3 ⟨rfl, hf3⟩
    have HA3 := Lib.hid (HA2.out.fr hf3 (by simp))
    have HB3 := Lib.hid (HB2.out.fr hf3 (by simp))
    have HF3 := Lib.hid (HF2.out.trans0 hf3)
    clear hf3 HA2 HB2 HF2 CS
    have c7' := (HB3.out).cell 7
    have z7 := (HB3.out).froz 7
    simp only [List.getElem?_toArray, List.getElem?_cons_zero, List.getElem?_cons_succ] at c7'
    have B5 : At ((w3).setCell ⟨w.heap.size + 1, 7, none⟩ (.bool sb)) (w.heap.size + 1) 49 #[.int .u32 x0, .int .u8 x1, .int .u16 x2, .int .u16 x3, .int .u16 x4, .int .u16 x5, .int .u32 x6, .bool sb] := (HB3.out).set 7 (.bool sb)
    have A5 := (HA3.out).far (a := ⟨w.heap.size + 1, 7, none⟩) (by simp) (.bool sb)
    have F5 := (HF3.out).set (a := ⟨w.heap.size + 1, 7, none⟩) (.inr (by simp)) (.bool sb)
    obtain ⟨w5, hw5⟩ : ∃ W, (w3).setCell ⟨w.heap.size + 1, 7, none⟩ (.bool sb) = W := ⟨_, rfl⟩
    rw [hw5] at B5 A5 F5
    have HA5 := Lib.hid A5
    have HB5 := Lib.hid B5
    have HF5 := Lib.hid F5
    have HW5 := Lib.hid hw5
    clear A5 B5 F5 hw5
    go_upto_region 5 with (fail)
    rw [HW5.out]
    go_wp2_with (first | (refine wpList_load_all (by rfl) 49 (.tmp 6) rfl (w.heap.size + 1) rfl 49 #[.int .u32 x0, .int .u8 x1, .int .u16 x2, .int .u16 x3, .int .u16 x4, .int .u16 x5, .int .u32 x6, .bool sb] _ HB5.out Tryz.underlying49 rfl HI.out ?_) | (refine wpList_store_all (by rfl) 49 (.tmp 4) (.tmp 37) rfl w.heap.size #[.int .u32 x0, .int .u8 x1, .int .u16 x2, .int .u16 x3, .int .u16 x4, .int .u16 x5, .int .u32 x6, .bool sb] rfl rfl 49 #[.int .u32 0, .int .u8 0, .int .u16 0, .int .u16 0, .int .u16 0, .int .u16 0, .int .u32 0, .bool false] HA5.out HI.out rfl (by simp [Value.oneCell']) ?_; intro w9 hA9 hF9))
    exact bodyPost_ret (res_row_tmp rfl _ _ w.heap.size 49 _ _ rfl hA9 Tryz.underlying49 rfl HI.out) rfl ⟨rfl, HF5.out.trans hF9 (by simp)⟩
end Go.Proofs.YthjbnbimfpbccaaGreatDoor
/-
  The reference's arena: bytes and truths; what is there; bytes laid. Condition: numbers in their types' ranges.
-/





set_option linter.unusedVariables false
namespace Go.Proofs.YthjbnbimfpbccaaGreatDoor
open Go.ChangeShapes Go.WideShapes Go.ChangeAt Go.RowKit
/-- The reference's arena at r: bytes in block bb, truths in block tb. -/
structure Ra (w : World) (r bb tb cb ct : Nat) (bs : List Nat) (f : Nat → Bool) : Prop where
  m16 : bs.length % 16 = 0
  le : bs.length ≤ 262144
  byt : Byt bs
  cb1 : bs.length ≤ cb
  cb2 : cb ≤ 9223372036854775807
  ct1 : bs.length / 16 ≤ ct
  ct2 : ct ≤ 9223372036854775807
  at_ : At w r 133 #[.slice (some ⟨bb, 0, none⟩) bs.length cb, .slice (some ⟨tb, 0, none⟩) (bs.length / 16) ct]
  bytes : ∃ cs : Array Value, At w bb 5 cs ∧ bs.length ≤ cs.size ∧ cs.toList.take bs.length = bys bs
  tags : ∃ ds : Array Value, At w tb 4 ds ∧ bs.length / 16 ≤ ds.size ∧ ds.toList.take (bs.length / 16) = bls (bs.length / 16) f
section
variable {w w' : World} {r bb tb cb ct : Nat} {bs : List Nat} {f : Nat → Bool} {S : List Nat}
theorem Ra.fr (h : Ra w r bb tb cb ct bs f) (F : Fr S w w') (h1 : r ∉ S) (h2 : bb ∉ S) (h3 : tb ∉ S) : Ra w' r bb tb cb ct bs f := by
  obtain ⟨cs, c1, c2⟩ := h.bytes
  obtain ⟨ds, d1, d2⟩ := h.tags
  exact ⟨h.m16, h.le, h.byt, h.cb1, h.cb2, h.ct1, h.ct2, h.at_.fr F h1, ⟨cs, c1.fr F h2, c2⟩, ⟨ds, d1.fr F h3, d2⟩⟩
theorem Ra.fr0 (h : Ra w r bb tb cb ct bs f) (F : Fr [] w w') : Ra w' r bb tb cb ct bs f := h.fr F (by simp) (by simp) (by simp)
theorem Ra.ne (h : Ra w r bb tb cb ct bs f) : r ≠ bb ∧ r ≠ tb ∧ bb ≠ tb := by
  obtain ⟨cs, c1, _⟩ := h.bytes
  obtain ⟨ds, d1, _⟩ := h.tags
  exact ⟨h.at_.diff c1 (by decide), h.at_.diff d1 (by decide), c1.diff d1 (by decide)⟩
theorem Ra.lt (h : Ra w r bb tb cb ct bs f) : r < w.heap.size ∧ bb < w.heap.size ∧ tb < w.heap.size := by
  obtain ⟨cs, c1, _⟩ := h.bytes
  obtain ⟨ds, d1, _⟩ := h.tags
  exact ⟨h.at_.lt, c1.lt, d1.lt⟩
theorem Ra.c0 (h : Ra w r bb tb cb ct bs f) : w.cell? ⟨r, 0, none⟩ = some (.slice (some ⟨bb, 0, none⟩) bs.length cb) := h.at_.cell 0
theorem Ra.c1 (h : Ra w r bb tb cb ct bs f) : w.cell? ⟨r, 1, none⟩ = some (.slice (some ⟨tb, 0, none⟩) (bs.length / 16) ct) := h.at_.cell 1
theorem Ra.byte (h : Ra w r bb tb cb ct bs f) (i n : Nat) (hi : bs[i]? = some n) : w.cell? ⟨bb, i, none⟩ = some (.int .u8 (n : Int)) := by
  obtain ⟨cs, c1, c2, c3⟩ := h.bytes
  have hlt := (List.getElem?_eq_some_iff.1 hi).1
  rw [c1.cell, ← Array.getElem?_toList]
  have := bys_get bs i n hi
  rw [← c3, List.getElem?_take, if_pos hlt] at this
  exact this
theorem Ra.bfroz (h : Ra w r bb tb cb ct bs f) (i : Nat) : w.frozen? ⟨bb, i, none⟩ = false := by
  obtain ⟨cs, c1, _⟩ := h.bytes; exact c1.froz i
theorem Ra.tag (h : Ra w r bb tb cb ct bs f) (i : Nat) (hi : i < bs.length / 16) : w.cell? ⟨tb, i, none⟩ = some (.bool (f i)) := by
  obtain ⟨ds, d1, d2, d3⟩ := h.tags
  rw [d1.cell, ← Array.getElem?_toList]
  have := bls_get (bs.length / 16) f i hi
  rw [← d3, List.getElem?_take, if_pos hi] at this
  exact this
theorem Ra.tfroz (h : Ra w r bb tb cb ct bs f) (i : Nat) : w.frozen? ⟨tb, i, none⟩ = false := by
  obtain ⟨ds, d1, _⟩ := h.tags; exact d1.froz i
theorem Ra.setB (h : Ra w r bb tb cb ct bs f) (i n : Nat) (hn : n < 256) : Ra (w.setCell ⟨bb, i, none⟩ (.int .u8 (n : Int))) r bb tb cb ct (bs.set i n) f := by
  obtain ⟨n1, n2, n3⟩ := h.ne
  obtain ⟨cs, c1, c2, c3⟩ := h.bytes
  obtain ⟨ds, d1, d2⟩ := h.tags
  have hl : (bs.set i n).length = bs.length := List.length_set
  refine ⟨by rw [hl]; exact h.m16, by rw [hl]; exact h.le, h.byt.set i n hn, by rw [hl]; exact h.cb1, h.cb2, by rw [hl]; exact h.ct1, h.ct2, by rw [hl]; exact h.at_.far n1 _, ⟨_, c1.set i _, by rw [hl]; simpa using c2, ?_⟩, by rw [hl]; exact ⟨ds, d1.far (fun e => n3 e.symm) _, d2⟩⟩
  rw [hl, Array.toList_setIfInBounds, List.take_set, c3, bys_set]
theorem bls_set (n : Nat) (f : Nat → Bool) (i : Nat) (b : Bool) : (bls n f).set i (.bool b) = bls n (upd f i b) := by
  refine List.ext_getElem? fun j => ?_
  rw [List.getElem?_set]
  by_cases hj : j < n
  · rw [bls_get n f j hj, bls_get n _ j hj, bls_len]
    unfold upd
    by_cases e : i = j
    · subst e; simp [hj]
    · rw [if_neg e, if_neg (fun h => e h.symm)]
  · have h1 : ∀ g, (bls n g)[j]? = none := fun g => List.getElem?_eq_none (by rw [bls_len]; omega)
    rw [h1, h1, bls_len]
    by_cases e : i = j
    · subst e; simp [hj]
    · rw [if_neg e]
theorem Ra.setT (h : Ra w r bb tb cb ct bs f) (i : Nat) (b : Bool) : Ra (w.setCell ⟨tb, i, none⟩ (.bool b)) r bb tb cb ct bs (upd f i b) := by
  obtain ⟨n1, n2, n3⟩ := h.ne
  obtain ⟨cs, c1, c2⟩ := h.bytes
  obtain ⟨ds, d1, d2, d3⟩ := h.tags
  refine ⟨h.m16, h.le, h.byt, h.cb1, h.cb2, h.ct1, h.ct2, h.at_.far n2 _, ⟨cs, c1.far n3 _, c2⟩, ⟨_, d1.set i _, by simpa using d2, ?_⟩⟩
  rw [Array.toList_setIfInBounds, List.take_set, d3, bls_set]
end
section
variable (w : World) (r bb tb cb ct : Nat) (bs : List Nat) (f : Nat → Bool) (h : Ra w r bb tb cb ct bs f)
include h
theorem rthere_any (a : Nat) (ha : a < 4294967296) (n : Int) (hn1 : -9223372036854775808 ≤ n) (hn2 : n ≤ 9223372036854775807) :
    Calls Tryz.prog 72 #[.pointer (some ⟨r, 0, none⟩), .int .u32 a, .int .i64 n] w fun e w' => e = .returned (.bool (thB bs.length a n)) ∧ w = w' := by
  have c0 := h.c0
  have hN := h.le
  obtain ⟨N, hNN⟩ : ∃ N, bs.length = N := ⟨_, rfl⟩
  rw [hNN] at c0 hN ⊢
  clear h hNN
  unfold thB
  by_cases h0 : 0 ≤ n
  · by_cases h1 : n ≤ N
    · by_cases h2 : (a : Int) ≤ N - n
      all_goals
        have d0 := decide_eq_true h0
        have d1 := decide_eq_true h1
        first | have d2 := decide_eq_false h2 | have d2 := decide_eq_true h2
        rw [d0, d1, d2]
        go_enter Tryz.func72, Tryz.ntmps72
        go_wp2_with fail
        go_ret
        exact ⟨rfl, rfl⟩
    · have d0 := decide_eq_true h0
      have d1 := decide_eq_false h1
      rw [d0, d1, Bool.false_and, Bool.and_false]
      go_enter Tryz.func72, Tryz.ntmps72
      go_wp2_with fail
      go_ret
      exact ⟨rfl, rfl⟩
  · have d0 := decide_eq_false h0
    rw [d0, Bool.false_and]
    go_enter Tryz.func72, Tryz.ntmps72
    go_wp2_with fail
    go_ret
    exact ⟨rfl, rfl⟩
end
end Go.Proofs.YthjbnbimfpbccaaGreatDoor
/-
  The reference's Write. Condition: numbers in their types' ranges.
-/





set_option linter.unusedVariables false
namespace Go.Proofs.YthjbnbimfpbccaaGreatDoor
open Go.ChangeShapes Go.WideShapes Go.ChangeAt Go.RowKit
theorem putL_step (bs : List Nat) (a : Nat) (l : List Nat) (k n : Nat) (hk : l[k]? = some n) (h : a + l.length ≤ bs.length) : (putL bs a (l.take k)).set (a + k) n = putL bs a (l.take (k + 1)) := by
  have hkl := (List.getElem?_eq_some_iff.1 hk).1
  have l1 : (l.take k).length = k := by rw [List.length_take]; omega
  have l2 : (l.take (k + 1)).length = k + 1 := by rw [List.length_take]; omega
  refine List.ext_getElem? fun i => ?_
  rw [List.getElem?_set, putL_get bs a _ (by rw [l1]; omega), putL_get bs a _ (by rw [l2]; omega), putL_len bs a _ (by rw [l1]; omega), l1, l2]
  by_cases e : a + k = i
  · subst e
    rw [if_pos rfl, if_pos (by omega), if_neg (by omega), if_pos (by omega), show a + k - a = k by omega, List.getElem?_take, if_pos (by omega), hk]
  · rw [if_neg e]
    by_cases h1 : i < a
    · rw [if_pos h1, if_pos h1]
    · rw [if_neg h1, if_neg h1]
      by_cases h2 : i < a + k
      · rw [if_pos h2, if_pos (by omega), List.getElem?_take, List.getElem?_take, if_pos (by omega), if_pos (by omega)]
      · rw [if_neg h2, if_neg (by omega)]
/-- The tags behind the first k bytes. -/
def wrK (f : Nat → Bool) (a k : Nat) : Nat → Bool := if 0 < k then putF f a k else f
theorem wrK_step (f : Nat → Bool) (a k : Nat) : upd (wrK f a k) ((a + k) / 16) false = wrK f a (k + 1) := by
  funext i
  unfold wrK upd
  rw [if_pos (show 0 < k + 1 by omega), putF_get]
  by_cases e : i = (a + k) / 16
  · rw [if_pos e, decide_eq_true (show a / 16 ≤ i by omega), decide_eq_true (show i ≤ (a + (k + 1) - 1) / 16 by omega)]
    simp
  · rw [if_neg e]
    by_cases h0 : 0 < k
    · rw [if_pos h0, putF_get]
      congr 2
      by_cases h1 : a / 16 ≤ i
      · rw [decide_eq_true h1, Bool.true_and, Bool.true_and]
        by_cases h2 : i ≤ (a + k - 1) / 16
        · rw [decide_eq_true h2, decide_eq_true (by omega)]
        · rw [decide_eq_false h2, decide_eq_false (by omega)]
      · rw [decide_eq_false h1, Bool.false_and, Bool.false_and]
    · obtain rfl : k = 0 := by omega
      rw [if_neg h0]
      have : (decide (a / 16 ≤ i) && decide (i ≤ (a + (0 + 1) - 1) / 16)) = false := by
        by_cases h1 : a / 16 ≤ i
        · rw [decide_eq_false (show ¬ i ≤ (a + (0 + 1) - 1) / 16 by omega), Bool.and_false]
        · rw [decide_eq_false h1, Bool.false_and]
      rw [this]; simp
theorem i64w (n : Nat) (h : n < 9223372036854775808) : IntKind.i64.wrap (n : Int) = n := by
  simp [IntKind.wrap, IntKind.signed, IntKind.bits]; omega
set_option maxHeartbeats 2000000 in
set_option maxRecDepth 100000 in
theorem rwrite_any (w : World) (r bb tb cb ct : Nat) (bs : List Nat) (f : Nat → Bool) (h : Ra w r bb tb cb ct bs f) (a : Nat) (ha : a < 4294967296) (l : List Nat) (hb : Byt l) (hl : l.length ≤ 1000000) :
    Calls Tryz.prog 73 #[.pointer (some ⟨r, 0, none⟩), .int .u32 a, strV l] w fun e w' => e = .returned (.bool (decide (a + l.length ≤ bs.length))) ∧ Ra w' r bb tb cb ct (wrL bs a l) (wrF bs f a l) ∧ Fr [bb, tb] w w' := by
  have CT := Lib.hid (rthere_any w r bb tb cb ct bs f h a ha (l.length : Nat) (by omega) (by omega))
  rw [thB_nat] at CT
  have hsz := BS_size l
  have HIX := Lib.hid (fun i b (hi : l[i]? = some b) (h : i < (BS l).size) => BS_at l hb i b hi h)
  have HB := Lib.hid hb
  have H := Lib.hid h
  unfold strV
  obtain ⟨S, hS⟩ : ∃ S, BS l = S := ⟨_, rfl⟩
  rw [hS] at hsz HIX ⊢
  obtain ⟨n, hn⟩ : ∃ n, l.length = n := ⟨_, rfl⟩
  rw [hn] at CT hl hsz ⊢
  have HN := Lib.hid hn
  have HSZ := Lib.hid hsz
  have hsb : S.size ≤ 1000000 := by omega
  have hsi : ((S.size : Nat) : Int) = (n : Int) := by omega
  by_cases hfit : a + n ≤ bs.length
  · rw [decide_eq_true hfit] at CT ⊢
    have hw1 : wrL bs a l = putL bs a l := if_pos (by omega)
    have hw2 : wrF bs f a l = wrK f a n := by
      unfold wrF wrK
      rw [hn]
      by_cases h0 : 0 < n
      · rw [if_pos ⟨hfit, h0⟩, if_pos h0]
      · rw [if_neg (fun x => h0 x.2), if_neg h0]
    rw [hw1, hw2]
    have hbl := h.le
    clear h hb hS hn hsz hw1 hw2
    go_enter Tryz.func73, Tryz.ntmps73
    go_wp2_with fail
    refine (CT.out).mono ?_
    rintro e w' ⟨rfl, rfl⟩
    go_wp2_with fail
    go_loopw [7] (fun i wr => ∃ k : Nat, k ≤ n ∧ i = .int .i64 k ∧ Ra wr r bb tb cb ct (putL bs a (l.take k)) (wrK f a k) ∧ Fr [bb, tb] w wr) (fun i _ => n - (intOf i).toNat)
    case atStart => exact ⟨0, by omega, rfl, by rw [List.take_zero, putL_nil]; exact H.out, Fr.refl _ _⟩
    case round =>
      obtain ⟨k, hk, rfl, hr, hf⟩ := hrel
      have HR := Lib.hid hr
      have HF := Lib.hid hf
      by_cases hkn : k < n
      · obtain ⟨b, hlb⟩ : ∃ b, l[k]? = some b := ⟨_, List.getElem?_eq_getElem (by rw [HN.out]; exact hkn)⟩
        have hix := HIX.out k b hlb
        have hb8 := HB.out.at_ _ _ hlb
        have HPS := Lib.hid (putL_step bs a l k b hlb (by rw [HN.out]; exact hfit))
        have HWK := Lib.hid (wrK_step f a k)
        have c0 := hr.c0
        have c1 := hr.c1
        have hpl : (putL bs a (l.take k)).length = bs.length := putL_len _ _ _ (by rw [List.length_take]; omega)
        rw [hpl] at c0 c1
        obtain ⟨ob, hob⟩ : ∃ b, (putL bs a (l.take k))[a + k]? = some b := ⟨_, List.getElem?_eq_getElem (by rw [hpl]; omega)⟩
        have cb0 := hr.byte (a + k) ob hob
        have zb0 := hr.bfroz (a + k)
        have R2 := Lib.hid (hr.setB (a + k) b hb8)
        rw [HPS.out] at R2
        have F2 := Lib.hid ((hf.set (a := ⟨bb, a + k, none⟩) (.inl (by simp)) (.int .u8 (b : Int))))
        have hki : (k : Int) < (S.size : Int) := by omega
        have g1 : IntKind.i64.wrap (a : Int) = a := i64w a (by omega)
        have g2 : IntKind.i64.wrap ((a : Int) + (k : Int)) = (a : Int) + k := by rw [← Int.natCast_add]; exact i64w _ (by omega)
        have g3 : ((a : Int) + (k : Int)).toNat = a + k := by omega
        have g4 : (0 : Int) ≤ (a : Int) + k := by omega
        have g5 : (a : Int) + k < (bs.length : Int) := by omega
        have hrl := hr.lt
        have C0 := Lib.hid (fun W (hW : Fr [] wr W) => (hW.cell (a := ⟨r, 0, none⟩) hrl.1 (by simp)).trans c0)
        clear hr hf hlb hob hpl
        go_wp2_with fail
        refine wp_region_L (fun W => Fr [] wr W) [12] (by kernel_rfl) ((Fr.refl _ _).drew) (fun hHeld => ?_)
        refine wpAnyL_take (i := 0) (v := ?_) rfl (by kernel_rfl) (fun _ _ _ h => h) (Or.inl ⟨by rfl, ?_⟩) (by assumption) ?_; rotate_left; (focus (intro w hSw; skip; go_simp; (try with_reducible rfl))); (try (refine wpAnyL_norm (by simp only [Act.put, List.setIfInBounds_toArray, List.set_cons_zero, List.set_cons_succ]; rfl) ?_))
        refine wpAnyL_take (i := 1) (v := ?_) rfl (by kernel_rfl) (fun _ _ _ h => h) (Or.inl ⟨by rfl, ?_⟩) (by assumption) ?_; rotate_left; (focus (intro w hSw; skip; go_simp; (try with_reducible rfl))); (try (refine wpAnyL_norm (by simp only [Act.put, List.setIfInBounds_toArray, List.set_cons_zero, List.set_cons_succ]; rfl) ?_))
        refine wpAnyL_take (i := 2) (v := ?_) rfl (by kernel_rfl) (fun _ _ _ h => h) (Or.inl ⟨by rfl, ?_⟩) (by assumption) ?_; rotate_left; (focus (intro w hSw; skip; go_simp; (try with_reducible rfl))); (try (refine wpAnyL_norm (by simp only [Act.put, List.setIfInBounds_toArray, List.set_cons_zero, List.set_cons_succ]; rfl) ?_))
        refine wpAnyL_take (i := 3) (v := ?_) rfl (by kernel_rfl) (fun _ _ _ h => h) (Or.inl ⟨by rfl, ?_⟩) (by assumption) ?_; rotate_left; (focus (intro w hSw; (have cc := C0.out _ hSw); go_simp; (try with_reducible rfl))); (try (refine wpAnyL_norm (by simp only [Act.put, List.setIfInBounds_toArray, List.set_cons_zero, List.set_cons_succ]; rfl) ?_))
        refine wpAnyL_take (i := 4) (v := ?_) rfl (by kernel_rfl) (fun _ _ _ h => h) (Or.inl ⟨by rfl, ?_⟩) (by assumption) ?_; rotate_left; (focus (intro w hSw; skip; go_simp; (try with_reducible rfl))); (try (refine wpAnyL_norm (by simp only [Act.put, List.setIfInBounds_toArray, List.set_cons_zero, List.set_cons_succ]; rfl) ?_))
        refine wpAnyL_take (i := 5) (v := ?_) rfl (by kernel_rfl) (fun _ _ _ h => h) (Or.inl ⟨by rfl, ?_⟩) (by assumption) ?_; rotate_left; (focus (intro w hSw; skip; go_simp; (try with_reducible rfl))); (try (refine wpAnyL_norm (by simp only [Act.put, List.setIfInBounds_toArray, List.set_cons_zero, List.set_cons_succ]; rfl) ?_))
        refine wpAnyL_take (i := 6) (v := ?_) rfl (by kernel_rfl) (fun _ _ _ h => h) (Or.inl ⟨by rfl, ?_⟩) (by assumption) ?_; rotate_left; (focus (intro w hSw; skip; go_simp; (try with_reducible rfl))); (try (refine wpAnyL_norm (by simp only [Act.put, List.setIfInBounds_toArray, List.set_cons_zero, List.set_cons_succ]; rfl) ?_))
        refine wpAnyL_take (i := 7) (v := ?_) rfl (by kernel_rfl) (fun _ _ _ h => h) (Or.inl ⟨by rfl, ?_⟩) (by assumption) ?_; rotate_left; (focus (intro w hSw; skip; go_simp; (try with_reducible rfl))); (try (refine wpAnyL_norm (by simp only [Act.put, List.setIfInBounds_toArray, List.set_cons_zero, List.set_cons_succ]; rfl) ?_))
        refine wpAnyL_take (i := 8) (v := ?_) rfl (by kernel_rfl) (fun _ _ _ h => h) (Or.inl ⟨by rfl, ?_⟩) (by assumption) ?_; rotate_left; (focus (intro w hSw; skip; go_simp; (try with_reducible rfl))); (try (refine wpAnyL_norm (by simp only [Act.put, List.setIfInBounds_toArray, List.set_cons_zero, List.set_cons_succ]; rfl) ?_))
        refine wpAnyL_take (i := 9) (v := ?_) rfl (by kernel_rfl) (fun _ _ _ h => h) (Or.inl ⟨by rfl, ?_⟩) (by assumption) ?_; rotate_left; (focus (intro w hSw; skip; go_simp; (try with_reducible rfl))); (try (refine wpAnyL_norm (by simp only [Act.put, List.setIfInBounds_toArray, List.set_cons_zero, List.set_cons_succ]; rfl) ?_))
        refine wpAnyL_take (i := 10) (v := ?_) rfl (by kernel_rfl) (fun _ _ _ h => h) (Or.inl ⟨by rfl, ?_⟩) (by assumption) ?_; rotate_left; (focus (intro w hSw; skip; go_simp; (try with_reducible rfl))); (try (refine wpAnyL_norm (by simp only [Act.put, List.setIfInBounds_toArray, List.set_cons_zero, List.set_cons_succ]; rfl) ?_))
        refine wpAnyL_take (i := 11) (v := ?_) rfl (by kernel_rfl) (fun _ _ _ h => h) (Or.inl ⟨by rfl, ?_⟩) (by assumption) ?_; rotate_left; (focus (intro w hSw; skip; go_simp; (try with_reducible rfl))); (try (refine wpAnyL_norm (by simp only [Act.put, List.setIfInBounds_toArray, List.set_cons_zero, List.set_cons_succ]; rfl) ?_))
        refine wpAnyL_ready (rs := [12]) (by kernel_rfl) (by simp) ?_; refine AllReadyL.cons rfl (fun K hK => ?_) AllReadyL.nil
        go_simp
        refine hK.out _ _ (fun h => (h (by decide)).elim) (fun _ => ?_); clear hK K; (try (refine wpAnyL_norm (by simp only [Act.put, List.setIfInBounds_toArray, List.set_cons_zero, List.set_cons_succ]; rfl) ?_))
        refine wpAnyL_done (by kernel_rfl) ?_ _
        clear hHeld c0 c1 cb0 zb0 C0
        have R5 := Lib.hid (R2.out.fr0 ((Fr.refl [] _).drew))
        have F5 := Lib.hid (F2.out.drew)
        obtain ⟨w5, hw5⟩ : ∃ W, (wr.setCell ⟨bb, a + k, none⟩ (.int .u8 (b : Int))).drew = W := ⟨_, rfl⟩
        rw [hw5] at R5 F5 ⊢
        have hpl : (putL bs a (l.take (k + 1))).length = bs.length := putL_len _ _ _ (by rw [List.length_take, HN.out]; omega)
        have c1 := R5.out.c1
        rw [hpl] at c1
        have ct5 := R5.out.tag ((a + k) / 16) (by rw [hpl]; have := H.out.m16; omega)
        have zt5 := R5.out.tfroz ((a + k) / 16)
        have g6 : ((a : Int) + k) / 16 < ((bs.length / 16 : Nat) : Int) := by have := H.out.m16; omega
        have g7 : (((a : Int) + k) / 16).toNat = (a + k) / 16 := by omega
        have R7 := Lib.hid (R5.out.setT ((a + k) / 16) false)
        rw [HWK.out] at R7
        have F7 := Lib.hid (F5.out.set (a := ⟨tb, (a + k) / 16, none⟩) (.inl (by simp)) (.bool false))
        obtain ⟨M, hM⟩ : ∃ M, bs.length / 16 = M := ⟨_, rfl⟩
        rw [hM] at c1 g6
        clear hw5 hpl R5 F5 R2 F2 HR HF HPS HWK hM
        go_wp2_with fail
        go_roundw
        case rel => exact ⟨k + 1, by omega, by go_num, R7.out, F7.out⟩
        case measure => simp [intOf]; omega
      · obtain rfl : k = n := by omega
        go_wp2_with fail
        go_ret
        have hr' := HR.out
        rw [← HN.out, List.take_length, HN.out] at hr'
        exact ⟨rfl, hr', HF.out⟩
  · rw [decide_eq_false hfit] at CT ⊢
    have hw1 : wrL bs a l = bs := if_neg (by omega)
    have hw2 : wrF bs f a l = f := if_neg (fun x => hfit (by omega))
    rw [hw1, hw2]
    clear h hb hS hn hsz hw1 hw2
    go_enter Tryz.func73, Tryz.ntmps73
    go_wp2_with fail
    refine (CT.out).mono ?_
    rintro e w' ⟨rfl, rfl⟩
    go_wp2_with fail
    go_ret
    exact ⟨rfl, H.out, Fr.refl _ _⟩
end Go.Proofs.YthjbnbimfpbccaaGreatDoor
/-
  Capabilities one behind the other in a block: loads and stores of one of them. Condition: the place lies within the block.
-/


set_option linter.unusedVariables false
namespace Go.Proofs.YthjbnbimfpbccaaGreatDoor
open Go.ChangeShapes Go.WideShapes Go.ChangeAt Go.RowKit
theorem cat_one' (l : List Cp) : ∀ v ∈ cat l, v.oneCell' = true := fun v hv => by
  unfold cat at hv
  rw [List.mem_flatMap] at hv
  obtain ⟨c, _, hc⟩ := hv
  unfold Cp.l at hc
  simp only [List.mem_cons, List.not_mem_nil, or_false] at hc
  rcases hc with rfl | rfl | rfl | rfl | rfl | rfl | rfl | rfl <;> rfl
theorem cp_one (c : Cp) : ∀ v ∈ c.l, v.oneCell' = true := fun v hv => cat_one' [c] v (by simpa [cat] using hv)
theorem cat_put : ∀ (l : List Cp) (i : Nat) (c : Cp), i < l.length → (cat l).take (i * 8) ++ c.l ++ (cat l).drop (i * 8 + c.l.length) = cat (l.set i c)
  | [], i, c, h => by simp at h
  | d :: l, 0, c, h => by
    unfold cat
    simp only [List.flatMap_cons, Nat.zero_mul, List.take_zero, List.nil_append, List.set_cons_zero, Nat.zero_add]
    rw [List.drop_append_of_le_length (by simp [Cp.l_len]), List.drop_of_length_le (by simp [Cp.l_len]), List.nil_append]
  | d :: l, i + 1, c, h => by
    have ih := cat_put l i c (by simpa using h)
    unfold cat at ih ⊢
    rw [List.flatMap_cons, List.set_cons_succ, List.flatMap_cons, ← ih, show (i + 1) * 8 = d.l.length + i * 8 by rw [Cp.l_len]; omega, List.take_append, List.take_of_length_le (by omega), List.drop_append]
    rw [show d.l.length + i * 8 - d.l.length = i * 8 by omega, List.drop_of_length_le (show d.l.length ≤ d.l.length + i * 8 + c.l.length by omega), show d.l.length + i * 8 + c.l.length - d.l.length = i * 8 + c.l.length by omega]
    simp
theorem cat_append (a b : List Cp) : cat (a ++ b) = cat a ++ cat b := by unfold cat; exact List.flatMap_append
theorem Cp.cells_l (c : Cp) : c.cells = c.l.toArray := rfl
theorem cat_single (c : Cp) : (cat [c]).toArray = c.cells := by unfold cat; simp [Cp.cells_l]
section
variable {ops : Array Oper} {rest : List Oper} {o : Oper} {a : Act} {w : World} {Q : Exit → Act → World → Prop}
theorem infoCapS : (Tryz.prog.info? 49).map (·.size) = some 8 := by kernel_rfl
theorem wpList_load_cap (hgd : Region.wanted o (yielded ops a.tmps) = true) (x : Operand) (ho : o.op = .load 49 x) (g k : Nat) (hx : a.eval x = .pointer (some ⟨g, k, none⟩)) (t : TypeId) (l : List Cp) (hg : At w g t (cat l).toArray) (i : Nat) (hk : k = i * 8) (c : Cp) (hi : l[i]? = some c)
    (h : wpList Tryz.prog ops Q rest (a.put o.dst (.agg c.cells)) w) : wpList Tryz.prog ops Q (o :: rest) a w :=
  wpList_load_at hgd 49 x ho ⟨g, k, none⟩ hx c.l _ (fun j v hv => by
    have hj : j < 8 := by have := (List.getElem?_eq_some_iff.1 hv).1; rw [Cp.l_len] at this; exact this
    rw [Go.WideShapes.add_plain, hg.cell, List.getElem?_toArray, hk, cat_get l i j c hi hj, hv]) Tryz.underlying49 rfl infoCapS h
theorem wpList_store_cap (hgd : Region.wanted o (yielded ops a.tmps) = true) (x y : Operand) (ho : o.op = .store 49 x y) (g k : Nat) (c : Cp) (hx : a.eval x = .pointer (some ⟨g, k, none⟩)) (hy : a.eval y = .agg c.cells)
    (t : TypeId) (l : List Cp) (hg : At w g t (cat l).toArray) (i : Nat) (hk : k = i * 8) (hi : i < l.length)
    (h : ∀ w', At w' g t (cat (l.set i c)).toArray → Fr [g] w w' → wpList Tryz.prog ops Q rest (a.put o.dst undef) w') : wpList Tryz.prog ops Q (o :: rest) a w :=
  wpList_store_at hgd 49 x y ho g k c.l hx hy t (cat l) hg infoCapS (by rw [cat_len, Cp.l_len]; omega) (cp_one c) (fun w' h1 h2 => h w' (by rw [← cat_put l i c hi, ← hk]; exact h1) h2)
theorem wp_store_cap {K : Act → World → Prop} (x y : Operand) (ho : o.op = .store 49 x y) (g k : Nat) (c : Cp) (hx : a.eval x = .pointer (some ⟨g, k, none⟩)) (hy : a.eval y = .agg c.cells)
    (t : TypeId) (l : List Cp) (hg : At w g t (cat l).toArray) (i : Nat) (hk : k = i * 8) (hi : i < l.length)
    (h : ∀ w', At w' g t (cat (l.set i c)).toArray → Fr [g] w w' → K (a.put o.dst undef) w') : o.wp Tryz.prog a w K Q :=
  wp_store_at 49 x y ho g k c.l hx hy t (cat l) hg infoCapS (by rw [cat_len, Cp.l_len]; omega) (cp_one c) (fun w' h1 h2 => h w' (by rw [← cat_put l i c hi, ← hk]; exact h1) h2)
end
end Go.Proofs.YthjbnbimfpbccaaGreatDoor
/-
  Loads of capabilities in regions that draw their order. Condition: the place lies within the block.
-/


set_option linter.unusedVariables false
namespace Go.Proofs.YthjbnbimfpbccaaGreatDoor
open Go.ChangeShapes Go.WideShapes Go.ChangeAt Go.RowKit
section
variable {ops : Array Oper} {S : World → Prop} {o : Oper} {a : Act}
theorem yields_load_cap (x : Operand) (ho : o.op = .load 49 x) (g k : Nat) (hx : a.eval x = .pointer (some ⟨g, k, none⟩)) (t : TypeId) (l : List Cp) (hg : ∀ W, S W → At W g t (cat l).toArray) (i : Nat) (hk : k = i * 8) (c : Cp) (hi : l[i]? = some c)
    (hw : Region.wanted o (yielded ops a.tmps) = true) : YieldsIf Tryz.prog ops S o (.agg c.cells) a :=
  yields_load_at 49 x ho ⟨g, k, none⟩ hx c.l _ (fun W hW j v hv => by
    have hj : j < 8 := by have := (List.getElem?_eq_some_iff.1 hv).1; rw [Cp.l_len] at this; exact this
    rw [Go.WideShapes.add_plain, (hg W hW).cell, List.getElem?_toArray, hk, cat_get l i j c hi hj, hv]) Tryz.underlying49 rfl infoCapS hw
theorem yields_load_cp (x : Operand) (ho : o.op = .load 49 x) (g : Nat) (hx : a.eval x = .pointer (some ⟨g, 0, none⟩)) (t : TypeId) (c : Cp) (hg : ∀ W, S W → At W g t c.cells)
    (hw : Region.wanted o (yielded ops a.tmps) = true) : YieldsIf Tryz.prog ops S o (.agg c.cells) a :=
  yields_load_cap x ho g 0 hx t [c] (fun W hW => by rw [cat_single]; exact hg W hW) 0 rfl c rfl hw
end
end Go.Proofs.YthjbnbimfpbccaaGreatDoor
/-
  The reference's StoreCap, LoadCap, Untag. Condition: numbers in their types' ranges.
-/





set_option linter.unusedVariables false
namespace Go.Proofs.YthjbnbimfpbccaaGreatDoor
open Go.ChangeShapes Go.WideShapes Go.ChangeAt Go.RowKit
theorem i32w (n : Nat) (h : n < 4294967296) : IntKind.u32.wrap (n : Int) = n := by
  simp [IntKind.wrap, IntKind.signed, IntKind.bits]; omega
set_option maxHeartbeats 2000000 in
set_option maxRecDepth 100000 in
theorem rstorec_any (w : World) (r bb tb cb ct : Nat) (bs : List Nat) (f : Nat → Bool) (h : Ra w r bb tb cb ct bs f) (a : Nat) (ha : a < 4294967296) (c : Cp) (hc : c.Ok) :
    Calls Tryz.prog 28 #[.pointer (some ⟨r, 0, none⟩), .int .u32 a, .agg c.cells] w fun e w' => e = .returned (.bool (whB bs.length a)) ∧ Ra w' r bb tb cb ct (scL bs a c) (scF bs f a c) ∧ Fr [bb, tb] w w' := by
  have hrl := h.lt
  have A0 := Lib.hid (At.new w 49 c.cells)
  have F0 := Lib.hid (show Fr [] w (w.alloc (.cells c.cells 49)) from (by repeat (first | exact Fr.refl _ _ | assumption | refine Fr.trans0 ?_ (by assumption) | refine Fr.drewN ?_ _ | refine Fr.alloc ?_ _ | refine Fr.drew ?_)))
  have R0 := Lib.hid (h.fr0 F0.out)
  obtain ⟨w1, hw1⟩ : ∃ W, w.alloc (.cells c.cells 49) = W := ⟨_, rfl⟩
  rw [hw1] at A0 F0 R0
  have CT := Lib.hid (show Calls Tryz.prog 72 #[.pointer (some ⟨r, 0, none⟩), .int .u32 a, .int .i64 16] w1 fun e w' => e = .returned (.bool (decide (a + 16 ≤ bs.length))) ∧ w1 = w' from by
    have := rthere_any w1 r bb tb cb ct bs f R0.out a ha 16 (by omega) (by omega)
    rw [show (16 : Int) = ((16 : Nat) : Int) from rfl, thB_nat] at this
    exact this)
  have t1 : (a : Int).tmod 16 = (a : Int) % 16 := Int.tmod_eq_emod_of_nonneg (by omega)
  have HW1 := Lib.hid hw1
  have HI := Lib.hid (show (Tryz.prog.info? 49).map (·.size) = some c.cells.size from infoCapZ)
  clear hw1
  by_cases hm : a % 16 = 0
  · have e1 : ((a : Int) % 16 != 0) = false := by simp; omega
    by_cases hfit : a + 16 ≤ bs.length
    · have hwh : whB bs.length a = true := by unfold whB; simp; omega
      have hL : scL bs a c = wrL bs a (bytesC c) := by unfold scL; rw [if_pos hwh]
      have hF : scF bs f a c = upd (wrF bs f a (bytesC c)) (a / 16) (c.v && soundB c) := by unfold scF stF; rw [if_pos hwh]
      rw [hwh, hL, hF]
      rw [decide_eq_true hfit] at CT
      have hbl := h.le
      have h16 := h.m16
      have CB := Lib.hid (rbytes_any w1 c hc)
      have CWR := Lib.hid fun W (hW : Fr [] w1 W) => rwrite_any W r bb tb cb ct bs f (R0.out.fr0 hW) a ha (bytesC c) (by
        unfold bytesC
        exact (((((((le_byt _ _).append (le_byt _ _)).append (le_byt _ _)).append (le_byt _ _)).append (le_byt _ _)).append (le_byt _ _)).append (le_byt _ _)).append (le_byt _ _)) (by rw [bytesC_len]; omega)
      rw [bytesC_len, decide_eq_true hfit] at CWR
      have hll : (wrL bs a (bytesC c)).length = bs.length := wrL_len _ _ _
      obtain ⟨BL, hBL⟩ : ∃ l, wrL bs a (bytesC c) = l := ⟨_, rfl⟩
      obtain ⟨FF, hFF⟩ : ∃ l, wrF bs f a (bytesC c) = l := ⟨_, rfl⟩
      rw [hBL] at CWR hll ⊢
      rw [hFF] at CWR ⊢
      obtain ⟨SB, hSB⟩ : ∃ s, bytesC c = s := ⟨_, rfl⟩
      rw [hSB] at CB CWR
      unfold strV at CB CWR
      have CS := Lib.hid fun W => rsound_any W c
      obtain ⟨sb, hsb⟩ : ∃ sb, soundB c = sb := ⟨_, rfl⟩
      rw [hsb] at CS ⊢
      have cv := A0.out.cell 7
      unfold Cp.cells at cv
      simp only [List.getElem?_toArray, List.getElem?_cons_zero, List.getElem?_cons_succ] at cv
      obtain ⟨v, hv⟩ : ∃ v, c.v = v := ⟨_, rfl⟩
      rw [hv] at cv ⊢
      have u1 : (a : Int).tdiv 16 = ((a / 16 : Nat) : Int) := by rw [Int.tdiv_eq_ediv_of_nonneg (by omega)]; omega
      have u2 : (a : Int) / 16 = ((a / 16 : Nat) : Int) := by omega
      have u3 : IntKind.u32.wrap ((a / 16 : Nat) : Int) = ((a / 16 : Nat) : Int) := i32w _ (by omega)
      have u4 : IntKind.i64.wrap ((a / 16 : Nat) : Int) = ((a / 16 : Nat) : Int) := i64w _ (by omega)
      obtain ⟨A, hA⟩ : ∃ A, a / 16 = A := ⟨_, rfl⟩
      rw [hA] at u1 u2 u3 u4
      have hAl : A < bs.length / 16 := by omega
      rw [← hll] at hAl
      have hAm : (A : Int) < ((bs.length / 16 : Nat) : Int) := by omega
      rw [hA]
      have HHL := Lib.hid hll
      have hql := A0.out.lt
      have CV := Lib.hid cv
      clear h hwh hL hF hbl h16 hBL hFF hSB hsb hv cv hA hm hll
      go_enter Tryz.func28, Tryz.ntmps28
      go_wp2_with fail
      rw [HW1.out]
      refine (CT.out).mono ?_
      rintro e w' ⟨rfl, rfl⟩
      go_wp2_with (refine wpList_load_all (by rfl) 49 (.tmp 5) rfl w.heap.size rfl 49 c.cells _ A0.out Tryz.underlying49 rfl HI.out ?_)
      refine (CB.out).mono ?_
      rintro e w2 ⟨rfl, hf2⟩
      have F2 := Lib.hid hf2
      clear hf2
      go_wp2_with fail
      refine (CWR.out _ F2.out).mono ?_
      rintro e w3 ⟨rfl, hr3, hf3⟩
      have R3 := Lib.hid hr3
      have F3 := Lib.hid ((((F0.out.trans0 F2.out).more (T := [bb, tb]) (by simp))).trans hf3 (fun k hk => .inl hk))
      have hne3 : w.heap.size ≠ bb ∧ w.heap.size ≠ tb := by omega
      have A3 := Lib.hid ((A0.out.fr F2.out (by simp)).fr hf3 (by simp; omega))
      have c1 := hr3.c1
      rw [HHL.out] at c1
      have C1 := Lib.hid fun W (hW : Fr [] w3 W) => (hW.cell (a := ⟨r, 1, none⟩) hr3.lt.1 (by simp)).trans c1
      have CTG := Lib.hid fun W (hW : Fr [] w3 W) => (hW.cell (a := ⟨tb, A, none⟩) hr3.lt.2.2 (by simp)).trans (hr3.tag A hAl)
      have ZTG := Lib.hid fun W (hW : Fr [] w3 W) => (hW.froz (a := ⟨tb, A, none⟩) hr3.lt.2.2 (by simp)).trans (hr3.tfroz A)
      have CV3 := Lib.hid fun W (hW : Fr [] w3 W) => (hW.cell (a := ⟨w.heap.size, 7, none⟩) A3.out.lt (by simp)).trans (((hf3.cell (a := ⟨w.heap.size, 7, none⟩) (Nat.lt_of_lt_of_le hql F2.out.size) (by simp; omega)).trans ((F2.out.cell (a := ⟨w.heap.size, 7, none⟩) hql (by simp)).trans CV.out)))
      obtain ⟨M, hM⟩ : ∃ M, bs.length / 16 = M := ⟨_, rfl⟩
      rw [hM] at C1 hAm
      clear hr3 hf3 c1 hne3 CV CWR CB CT hAl hrl hM
      go_wp2_with fail
      refine wp_region_L (fun W => Fr [] w3 W) [13] (by kernel_rfl) ((Fr.refl _ _).drew) (fun hHeld => ?_)
      refine wpAnyL_take (i := 0) (v := ?_) rfl (by kernel_rfl) (fun _ _ _ h => h) (Or.inl ⟨by rfl, ?_⟩) (by assumption) ?_; rotate_left; (focus (intro w hSw; skip; go_simp; (try with_reducible rfl))); (try (refine wpAnyL_norm (by simp only [Act.put, List.setIfInBounds_toArray, List.set_cons_zero, List.set_cons_succ]; rfl) ?_))
      refine wpAnyL_take (i := 1) (v := ?_) rfl (by kernel_rfl) (fun _ _ _ h => h) (Or.inl ⟨by rfl, ?_⟩) (by assumption) ?_; rotate_left; (focus (intro w hSw; skip; go_simp; (try with_reducible rfl))); (try (refine wpAnyL_norm (by simp only [Act.put, List.setIfInBounds_toArray, List.set_cons_zero, List.set_cons_succ]; rfl) ?_))
      refine wpAnyL_take (i := 2) (v := ?_) rfl (by kernel_rfl) (fun _ _ _ h => h) (Or.inl ⟨by rfl, ?_⟩) (by assumption) ?_; rotate_left; (focus (intro w hSw; skip; go_simp; (try with_reducible rfl))); (try (refine wpAnyL_norm (by simp only [Act.put, List.setIfInBounds_toArray, List.set_cons_zero, List.set_cons_succ]; rfl) ?_))
      refine wpAnyL_take (i := 3) (v := ?_) rfl (by kernel_rfl) (fun _ _ _ h => h) (Or.inl ⟨by rfl, ?_⟩) (by assumption) ?_; rotate_left; (focus (intro w hSw; (have cc := C1.out _ hSw); go_simp; (try with_reducible rfl))); (try (refine wpAnyL_norm (by simp only [Act.put, List.setIfInBounds_toArray, List.set_cons_zero, List.set_cons_succ]; rfl) ?_))
      refine wpAnyL_take (i := 4) (v := ?_) rfl (by kernel_rfl) (fun _ _ _ h => h) (Or.inl ⟨by rfl, ?_⟩) (by assumption) ?_; rotate_left; (focus (intro w hSw; skip; go_simp; (try with_reducible rfl))); (try (refine wpAnyL_norm (by simp only [Act.put, List.setIfInBounds_toArray, List.set_cons_zero, List.set_cons_succ]; rfl) ?_))
      refine wpAnyL_take (i := 5) (v := ?_) rfl (by kernel_rfl) (fun _ _ _ h => h) (Or.inl ⟨by rfl, ?_⟩) (by assumption) ?_; rotate_left; (focus (intro w hSw; skip; go_simp; (try with_reducible rfl))); (try (refine wpAnyL_norm (by simp only [Act.put, List.setIfInBounds_toArray, List.set_cons_zero, List.set_cons_succ]; rfl) ?_))
      refine wpAnyL_take (i := 6) (v := ?_) rfl (by kernel_rfl) (fun _ _ _ h => h) (Or.inl ⟨by rfl, ?_⟩) (by assumption) ?_; rotate_left; (focus (intro w hSw; skip; go_simp; (try with_reducible rfl))); (try (refine wpAnyL_norm (by simp only [Act.put, List.setIfInBounds_toArray, List.set_cons_zero, List.set_cons_succ]; rfl) ?_))
      refine wpAnyL_take (i := 7) (v := ?_) rfl (by kernel_rfl) (fun _ _ _ h => h) (Or.inl ⟨by rfl, ?_⟩) (by assumption) ?_; rotate_left; (focus (intro w hSw; (have cc := CV3.out _ hSw); go_simp; (try with_reducible rfl))); (try (refine wpAnyL_norm (by simp only [Act.put, List.setIfInBounds_toArray, List.set_cons_zero, List.set_cons_succ]; rfl) ?_))
      refine wpAnyL_take (i := 8) (v := ?_) rfl (by kernel_rfl) (fun _ _ _ h => h) (Or.inl ⟨by rfl, ?_⟩) (by assumption) ?_; rotate_left; (focus (intro w hSw; skip; go_simp; (try with_reducible rfl))); (try (refine wpAnyL_norm (by simp only [Act.put, List.setIfInBounds_toArray, List.set_cons_zero, List.set_cons_succ]; rfl) ?_))
      cases v with
      | false =>
        refine wpAnyL_take (i := 9) (v := undef) rfl (by kernel_rfl) (fun _ _ _ h => h) (Or.inr ⟨by rfl, rfl⟩) (by assumption) ?_; (try (refine wpAnyL_norm (by simp only [Act.put, List.setIfInBounds_toArray, List.set_cons_zero, List.set_cons_succ]; rfl) ?_))
        refine wpAnyL_take (i := 10) (v := undef) rfl (by kernel_rfl) (fun _ _ _ h => h) (Or.inr ⟨by rfl, rfl⟩) (by assumption) ?_; (try (refine wpAnyL_norm (by simp only [Act.put, List.setIfInBounds_toArray, List.set_cons_zero, List.set_cons_succ]; rfl) ?_))
        refine wpAnyL_take (i := 11) (v := ?_) rfl (by kernel_rfl) (fun _ _ _ h => h) (Or.inl ⟨by rfl, ?_⟩) (by assumption) ?_; rotate_left; (focus (intro w hSw; skip; go_simp; (try with_reducible rfl))); (try (refine wpAnyL_norm (by simp only [Act.put, List.setIfInBounds_toArray, List.set_cons_zero, List.set_cons_succ]; rfl) ?_))
        refine wpAnyL_take (i := 12) (v := ?_) rfl (by kernel_rfl) (fun _ _ _ h => h) (Or.inl ⟨by rfl, ?_⟩) (by assumption) ?_; rotate_left; (focus (intro w hSw; skip; go_simp; (try with_reducible rfl))); (try (refine wpAnyL_norm (by simp only [Act.put, List.setIfInBounds_toArray, List.set_cons_zero, List.set_cons_succ]; rfl) ?_))
        have ct5 := CTG.out _ hHeld
        have zt5 := ZTG.out _ hHeld
        refine wpAnyL_ready (rs := [13]) (by kernel_rfl) (by simp) ?_; refine AllReadyL.cons rfl (fun K hK => ?_) AllReadyL.nil
        go_simp
        refine hK.out _ _ (fun h => (h (by decide)).elim) (fun _ => ?_); clear hK K; (try (refine wpAnyL_norm (by simp only [Act.put, List.setIfInBounds_toArray, List.set_cons_zero, List.set_cons_succ]; rfl) ?_))
        refine wpAnyL_done (by kernel_rfl) ?_ _
        have F9 := Lib.hid (F3.out.trans0 hHeld)
        have R9 := Lib.hid ((R3.out.fr0 hHeld).setT A false)
        have G9 := Lib.hid (F9.out.set (a := ⟨tb, A, none⟩) (.inl (by simp)) (.bool false))
        clear hHeld
        go_wp2_with fail
        go_ret
        exact ⟨rfl, R9.out.fr0 (by first | exact Fr.refl _ _ | exact (Fr.refl _ _).drew), by first | exact G9.out | exact G9.out.drew⟩
      | true =>
        refine wpAnyL_take (i := 9) rfl (by kernel_rfl) (fun _ _ _ h => h) (yields_load_cp (.tmp 5) rfl w.heap.size rfl 49 c (fun W h => A3.out.fr h (by simp)) rfl) (by assumption) ?_; (try (refine wpAnyL_norm (by simp only [Act.put, List.setIfInBounds_toArray, List.set_cons_zero, List.set_cons_succ]; rfl) ?_))
        refine wpAnyL_ready (rs := [10]) (by kernel_rfl) (by simp) ?_; refine AllReadyL.cons rfl (fun K hK => ?_) AllReadyL.nil
        go_simp
        refine (CS.out _).mono ?_
        rintro e w4 ⟨rfl, hf4⟩
        have hh := hHeld.trans0 hf4
        refine hK.out _ _ (fun _ => hh) (fun hHeld' => ?_); have hHeld := hHeld' (by decide); clear hHeld' hK K; (try (refine wpAnyL_norm (by simp only [Act.put, List.setIfInBounds_toArray, List.set_cons_zero, List.set_cons_succ]; rfl) ?_))
        clear hh hf4
        refine wpAnyL_take (i := 11) (v := ?_) rfl (by kernel_rfl) (fun _ _ _ h => h) (Or.inl ⟨by rfl, ?_⟩) (by assumption) ?_; rotate_left; (focus (intro w hSw; skip; go_simp; (try with_reducible rfl))); (try (refine wpAnyL_norm (by simp only [Act.put, List.setIfInBounds_toArray, List.set_cons_zero, List.set_cons_succ]; rfl) ?_))
        refine wpAnyL_take (i := 12) (v := ?_) rfl (by kernel_rfl) (fun _ _ _ h => h) (Or.inl ⟨by rfl, ?_⟩) (by assumption) ?_; rotate_left; (focus (intro w hSw; skip; go_simp; (try with_reducible rfl))); (try (refine wpAnyL_norm (by simp only [Act.put, List.setIfInBounds_toArray, List.set_cons_zero, List.set_cons_succ]; rfl) ?_))
        have ct5 := CTG.out _ hHeld
        have zt5 := ZTG.out _ hHeld
        refine wpAnyL_ready (rs := [13]) (by kernel_rfl) (by simp) ?_; refine AllReadyL.cons rfl (fun K hK => ?_) AllReadyL.nil
        go_simp
        refine hK.out _ _ (fun h => (h (by decide)).elim) (fun _ => ?_); clear hK K; (try (refine wpAnyL_norm (by simp only [Act.put, List.setIfInBounds_toArray, List.set_cons_zero, List.set_cons_succ]; rfl) ?_))
        refine wpAnyL_done (by kernel_rfl) ?_ _
        have F9 := Lib.hid (F3.out.trans0 hHeld)
        have R9 := Lib.hid ((R3.out.fr0 hHeld).setT A sb)
        have G9 := Lib.hid (F9.out.set (a := ⟨tb, A, none⟩) (.inl (by simp)) (.bool sb))
        clear hHeld
        go_wp2_with fail
        go_ret
        exact ⟨rfl, R9.out.fr0 (by first | exact Fr.refl _ _ | exact (Fr.refl _ _).drew), by first | exact G9.out | exact G9.out.drew⟩
    · have hwh : whB bs.length a = false := by unfold whB; rw [decide_eq_false hfit, Bool.and_false]
      have hL : scL bs a c = bs := by unfold scL; rw [if_neg (by rw [hwh]; simp)]
      have hF : scF bs f a c = f := by unfold scF; rw [if_neg (by rw [hwh]; simp)]
      rw [hwh, hL, hF]
      rw [decide_eq_false hfit] at CT
      clear h hwh hL hF hm
      go_enter Tryz.func28, Tryz.ntmps28
      go_wp2_with fail
      rw [HW1.out]
      refine (CT.out).mono ?_
      rintro e w' ⟨rfl, rfl⟩
      go_wp2_with fail
      go_ret
      exact ⟨rfl, R0.out, F0.out.more (by simp)⟩
  · have e1 : ((a : Int) % 16 != 0) = true := by simp; omega
    have hwh : whB bs.length a = false := by unfold whB; rw [decide_eq_false hm, Bool.false_and]
    have hL : scL bs a c = bs := by unfold scL; rw [if_neg (by rw [hwh]; simp)]
    have hF : scF bs f a c = f := by unfold scF; rw [if_neg (by rw [hwh]; simp)]
    rw [hwh, hL, hF]
    clear h hwh hL hF hm CT
    go_enter Tryz.func28, Tryz.ntmps28
    go_wp2_with fail
    go_ret
    have hr := R0.out
    have hf := F0.out
    rw [← HW1.out] at hr hf
    first | exact ⟨rfl, hr, hf.more (by simp)⟩ | exact ⟨rfl, R0.out, F0.out.more (by simp)⟩
set_option maxHeartbeats 2000000 in
set_option maxRecDepth 100000 in
theorem rloadc_yes (w : World) (r bb tb cb ct : Nat) (bs : List Nat) (f : Nat → Bool) (h : Ra w r bb tb cb ct bs f) (a : Nat) (hm : a % 16 = 0) (hfit : a + 16 ≤ bs.length) :
    Calls Tryz.prog 113 #[.pointer (some ⟨r, 0, none⟩), .int .u32 a] w fun e w' => e = .returned (.tuple #[.agg (ofB (sub bs a 16) (f (a / 16))).cells, .bool true]) ∧ Fr [] w w' := by
  have hN := h.le
  have h16 := h.m16
  have hcap := h.cb1
  have hcap2 := h.cb2
  have ha : a < 4294967296 := by omega
  have H := Lib.hid h
  have CT := Lib.hid fun W (hW : Fr [] w W) => (show Calls Tryz.prog 72 #[.pointer (some ⟨r, 0, none⟩), .int .u32 a, .int .i64 16] W fun e w' => e = .returned (.bool true) ∧ W = w' from by
    have := rthere_any W r bb tb cb ct bs f (h.fr0 hW) a ha 16 (by omega) (by omega)
    rw [show (16 : Int) = ((16 : Nat) : Int) from rfl, thB_nat, decide_eq_true hfit] at this
    exact this)
  have hL : (sub bs a 16).length = 16 := by unfold sub; rw [List.length_take, List.length_drop]; omega
  have HB := Lib.hid (sub_byt bs a 16 h.byt)
  have HI := Lib.hid fun (W : World) (hW : Fr [] w W) => (show BIn W (some ⟨bb, a, none⟩) (sub bs a 16) from .inr ⟨bb, a, rfl, (h.fr0 hW).lt.2.1, fun j v hv => by
    have hj : j < 16 := by have := (List.getElem?_eq_some_iff.1 hv).1; rwa [bys_len, hL] at this
    obtain ⟨b, hb⟩ : ∃ b, bs[a + j]? = some b := ⟨_, List.getElem?_eq_getElem (by omega)⟩
    have hs : (sub bs a 16)[j]? = some b := by rw [sub_get, if_pos hj]; exact hb
    rw [bys_get _ _ _ hs] at hv
    injection hv with hv
    rw [← hv]
    exact (h.fr0 hW).byte (a + j) b hb⟩)
  have HC0 := Lib.hid fun W (hW : Fr [] w W) => (h.fr0 hW).c0
  have HC1 := Lib.hid fun W (hW : Fr [] w W) => (h.fr0 hW).c1
  have HTG := Lib.hid fun W (hW : Fr [] w W) => (h.fr0 hW).tag (a / 16) (by omega)
  have t1 : (a : Int).tmod 16 = (a : Int) % 16 := Int.tmod_eq_emod_of_nonneg (by omega)
  have e1 : ((a : Int) % 16 != 0) = false := by simp; omega
  obtain ⟨N, hNN⟩ : ∃ N, bs.length = N := ⟨_, rfl⟩
  obtain ⟨L, hLL⟩ : ∃ L, sub bs a 16 = L := ⟨_, rfl⟩
  rw [hNN] at hN hcap hfit h16 HC0 HC1
  rw [hLL] at hL HB HI ⊢
  have CO := Lib.hid fun W v => rof_any W L HB.out hL v
  unfold strV at CO
  obtain ⟨tg, htg⟩ : ∃ t, f (a / 16) = t := ⟨_, rfl⟩
  rw [htg] at HTG ⊢
  have HL := Lib.hid hL
  obtain ⟨R, hR⟩ : ∃ R, ofB L tg = R := ⟨_, rfl⟩
  have HR := Lib.hid hR
  rw [hR]
  have hwr : IntKind.u32.wrap ((a : Int) + 16) = (a : Int) + 16 := by simp [IntKind.wrap, IntKind.signed, IntKind.bits]; omega
  have HI8 := Lib.hid (show (Tryz.prog.info? 49).map (·.size) = some R.cells.size by kernel_rfl)
  have F0 := Lib.hid (show Fr [] w (w.alloc (.cells noC.cells 49)) from (by repeat (first | exact Fr.refl _ _ | assumption | refine Fr.trans0 ?_ (by assumption) | refine Fr.drewN ?_ _ | refine Fr.alloc ?_ _ | refine Fr.drew ?_)))
  have A0 := Lib.hid (At.new w 49 noC.cells)
  have hac : a < cb := by omega
  have u1 : (a : Int).tdiv 16 = ((a / 16 : Nat) : Int) := by rw [Int.tdiv_eq_ediv_of_nonneg (by omega)]; omega
  have u2 : (a : Int) / 16 = ((a / 16 : Nat) : Int) := by omega
  have u3 : IntKind.u32.wrap ((a / 16 : Nat) : Int) = ((a / 16 : Nat) : Int) := i32w _ (by omega)
  have u4 : IntKind.i64.wrap ((a / 16 : Nat) : Int) = ((a / 16 : Nat) : Int) := i64w _ (by omega)
  obtain ⟨A, hA⟩ : ∃ A, a / 16 = A := ⟨_, rfl⟩
  rw [hA] at u1 u2 u3 u4
  have hAm : (A : Int) < ((N / 16 : Nat) : Int) := by omega
  rw [hA] at HTG
  have HNE := Lib.hid (show w.heap.size ≠ bb ∧ w.heap.size ≠ tb ∧ w.heap.size ≠ r from by have := h.lt; omega)
  clear h hNN hLL hL htg hR hA hm h16
  obtain ⟨M, hM⟩ : ∃ M, N / 16 = M := ⟨_, rfl⟩
  rw [hM] at HC1 hAm
  clear hM
  go_enter Tryz.func113, Tryz.ntmps113
  go_wp2_with fail
  refine (CT.out _ F0.out).mono ?_
  rintro e w' ⟨rfl, rfl⟩
  go_upto_region 3 with (fail)
  have HIS := Lib.hid fun (W : World) (hW : (∃ C : Cp, At W w.heap.size 49 C.cells) ∧ Fr [] w W) => HI.out W hW.2
  refine wp_region_L (fun W => (∃ C : Cp, At W w.heap.size 49 C.cells) ∧ Fr [] w W) [] (by kernel_rfl) ⟨⟨noC, A0.out.hp rfl⟩, F0.out.drew⟩ (fun hHeld => ?_)
  refine wpAnyL_take (i := 0) (v := ?_) rfl (by kernel_rfl) (fun _ _ _ h => h) (Or.inl ⟨by rfl, ?_⟩) (by assumption) ?_; rotate_left; (focus (intro w hSw; skip; go_simp; (try with_reducible rfl))); (try (refine wpAnyL_norm (by simp only [Act.put, List.setIfInBounds_toArray, List.set_cons_zero, List.set_cons_succ]; rfl) ?_))
  refine wpAnyL_take (i := 1) (v := ?_) rfl (by kernel_rfl) (fun _ _ _ h => h) (Or.inl ⟨by rfl, ?_⟩) (by assumption) ?_; rotate_left; (focus (intro w hSw; skip; go_simp; (try with_reducible rfl))); (try (refine wpAnyL_norm (by simp only [Act.put, List.setIfInBounds_toArray, List.set_cons_zero, List.set_cons_succ]; rfl) ?_))
  refine wpAnyL_take (i := 2) (v := ?_) rfl (by kernel_rfl) (fun _ _ _ h => h) (Or.inl ⟨by rfl, ?_⟩) (by assumption) ?_; rotate_left; (focus (intro w hSw; skip; go_simp; (try with_reducible rfl))); (try (refine wpAnyL_norm (by simp only [Act.put, List.setIfInBounds_toArray, List.set_cons_zero, List.set_cons_succ]; rfl) ?_))
  refine wpAnyL_take (i := 3) (v := ?_) rfl (by kernel_rfl) (fun _ _ _ h => h) (Or.inl ⟨by rfl, ?_⟩) (by assumption) ?_; rotate_left; (focus (intro w hSw; (have hcl := HC0.out _ hSw.2); go_simp; (try with_reducible rfl))); (try (refine wpAnyL_norm (by simp only [Act.put, List.setIfInBounds_toArray, List.set_cons_zero, List.set_cons_succ]; rfl) ?_))
  refine wpAnyL_take (i := 4) (v := ?_) rfl (by kernel_rfl) (fun _ _ _ h => h) (Or.inl ⟨by rfl, ?_⟩) (by assumption) ?_; rotate_left; (focus (intro w hSw; skip; go_simp; (try with_reducible rfl))); (try (refine wpAnyL_norm (by simp only [Act.put, List.setIfInBounds_toArray, List.set_cons_zero, List.set_cons_succ]; rfl) ?_))
  refine wpAnyL_take (i := 5) (v := ?_) rfl (by kernel_rfl) (fun _ _ _ h => h) (Or.inl ⟨by rfl, ?_⟩) (by assumption) ?_; rotate_left; (focus (intro w hSw; skip; go_simp; (try with_reducible rfl))); (try (refine wpAnyL_norm (by simp only [Act.put, List.setIfInBounds_toArray, List.set_cons_zero, List.set_cons_succ]; rfl) ?_))
  refine wpAnyL_take (i := 6) (v := ?_) rfl (by kernel_rfl) (fun _ _ _ h => h) (Or.inl ⟨by rfl, ?_⟩) (by assumption) ?_; rotate_left; (focus (intro w hSw; skip; go_simp; (try with_reducible rfl))); (try (refine wpAnyL_norm (by simp only [Act.put, List.setIfInBounds_toArray, List.set_cons_zero, List.set_cons_succ]; rfl) ?_))
  refine wpAnyL_take (i := 7) (v := ?_) rfl (by kernel_rfl) (fun _ _ _ h => h) (Or.inl ⟨by rfl, ?_⟩) (by assumption) ?_; rotate_left; (focus (intro w hSw; (have k1 : (0 : Int) ≤ (a : Int) + 16 ∧ (a : Int) + 16 ≤ (cb : Int) := by omega); (have k2 : a ≤ ((a : Int) + 16).toNat := by omega); (have k3 : ¬ cb = a := by omega); (have k4 : ((a : Int) + 16).toNat - a = 16 := by omega); go_simp; (try with_reducible rfl))); (try (refine wpAnyL_norm (by simp only [Act.put, List.setIfInBounds_toArray, List.set_cons_zero, List.set_cons_succ]; rfl) ?_))
  refine wpAnyL_take (i := 8) rfl (by kernel_rfl) (fun _ _ _ h => h) (yields_str 22 9 5 Tryz.underlying22 Tryz.underlying5 Tryz.underlying9 (.tmp 23) rfl (some ⟨bb, a, none⟩) 16 (cb - a) rfl L HL.out HB.out HIS.out (fun h => by cases h) rfl) (by assumption) ?_; (try (refine wpAnyL_norm (by simp only [Act.put, List.setIfInBounds_toArray, List.set_cons_zero, List.set_cons_succ]; rfl) ?_))
  refine wpAnyL_take (i := 9) (v := ?_) rfl (by kernel_rfl) (fun _ _ _ h => h) (Or.inl ⟨by rfl, ?_⟩) (by assumption) ?_; rotate_left; (focus (intro w hSw; skip; go_simp; (try with_reducible rfl))); (try (refine wpAnyL_norm (by simp only [Act.put, List.setIfInBounds_toArray, List.set_cons_zero, List.set_cons_succ]; rfl) ?_))
  refine wpAnyL_take (i := 10) (v := ?_) rfl (by kernel_rfl) (fun _ _ _ h => h) (Or.inl ⟨by rfl, ?_⟩) (by assumption) ?_; rotate_left; (focus (intro w hSw; skip; go_simp; (try with_reducible rfl))); (try (refine wpAnyL_norm (by simp only [Act.put, List.setIfInBounds_toArray, List.set_cons_zero, List.set_cons_succ]; rfl) ?_))
  refine wpAnyL_take (i := 11) (v := ?_) rfl (by kernel_rfl) (fun _ _ _ h => h) (Or.inl ⟨by rfl, ?_⟩) (by assumption) ?_; rotate_left; (focus (intro w hSw; skip; go_simp; (try with_reducible rfl))); (try (refine wpAnyL_norm (by simp only [Act.put, List.setIfInBounds_toArray, List.set_cons_zero, List.set_cons_succ]; rfl) ?_))
  refine wpAnyL_take (i := 12) (v := ?_) rfl (by kernel_rfl) (fun _ _ _ h => h) (Or.inl ⟨by rfl, ?_⟩) (by assumption) ?_; rotate_left; (focus (intro w hSw; (have hcl := HC1.out _ hSw.2); go_simp; (try with_reducible rfl))); (try (refine wpAnyL_norm (by simp only [Act.put, List.setIfInBounds_toArray, List.set_cons_zero, List.set_cons_succ]; rfl) ?_))
  refine wpAnyL_take (i := 13) (v := ?_) rfl (by kernel_rfl) (fun _ _ _ h => h) (Or.inl ⟨by rfl, ?_⟩) (by assumption) ?_; rotate_left; (focus (intro w hSw; skip; go_simp; (try with_reducible rfl))); (try (refine wpAnyL_norm (by simp only [Act.put, List.setIfInBounds_toArray, List.set_cons_zero, List.set_cons_succ]; rfl) ?_))
  refine wpAnyL_take (i := 14) (v := ?_) rfl (by kernel_rfl) (fun _ _ _ h => h) (Or.inl ⟨by rfl, ?_⟩) (by assumption) ?_; rotate_left; (focus (intro w hSw; skip; go_simp; (try with_reducible rfl))); (try (refine wpAnyL_norm (by simp only [Act.put, List.setIfInBounds_toArray, List.set_cons_zero, List.set_cons_succ]; rfl) ?_))
  refine wpAnyL_take (i := 15) (v := ?_) rfl (by kernel_rfl) (fun _ _ _ h => h) (Or.inl ⟨by rfl, ?_⟩) (by assumption) ?_; rotate_left; (focus (intro w hSw; skip; go_simp; (try with_reducible rfl))); (try (refine wpAnyL_norm (by simp only [Act.put, List.setIfInBounds_toArray, List.set_cons_zero, List.set_cons_succ]; rfl) ?_))
  refine wpAnyL_take (i := 16) (v := ?_) rfl (by kernel_rfl) (fun _ _ _ h => h) (Or.inl ⟨by rfl, ?_⟩) (by assumption) ?_; rotate_left; (focus (intro w hSw; (have hcl := HTG.out _ hSw.2); go_simp; (try with_reducible rfl))); (try (refine wpAnyL_norm (by simp only [Act.put, List.setIfInBounds_toArray, List.set_cons_zero, List.set_cons_succ]; rfl) ?_))
  refine wpAnyL_ready (rs := [17]) (by kernel_rfl) (by simp) ?_; refine AllReadyL.cons rfl (fun K hK => ?_) AllReadyL.nil
  go_simp
  refine (CO.out _ _).mono ?_
  rintro e w3 ⟨rfl, hf3⟩
  rw [HR.out]
  refine hK.out _ _ (fun _ => ⟨hHeld.1.imp fun C h => h.fr hf3 (by simp), hHeld.2.trans0 hf3⟩) (fun hHeld' => ?_); have hHeld := hHeld' (by decide); clear hHeld' hK K; (try (refine wpAnyL_norm (by simp only [Act.put, List.setIfInBounds_toArray, List.set_cons_zero, List.set_cons_succ]; rfl) ?_))
  refine wpAnyL_take (i := 18) (v := ?_) rfl (by kernel_rfl) (fun _ _ _ h => h) (Or.inl ⟨by rfl, ?_⟩) (by assumption) ?_; rotate_left; (focus (intro w hSw; skip; go_simp; (try with_reducible rfl))); (try (refine wpAnyL_norm (by simp only [Act.put, List.setIfInBounds_toArray, List.set_cons_zero, List.set_cons_succ]; rfl) ?_))
  refine wpAnyL_take (i := 19) (v := ?_) rfl (by kernel_rfl) (fun _ _ _ h => h) (Or.inl ⟨by rfl, ?_⟩) (by assumption) ?_; rotate_left; (focus (intro w hSw; skip; go_simp; (try with_reducible rfl))); (try (refine wpAnyL_norm (by simp only [Act.put, List.setIfInBounds_toArray, List.set_cons_zero, List.set_cons_succ]; rfl) ?_))
  refine wpAnyL_ready (rs := [20]) (by kernel_rfl) (by simp) ?_; refine AllReadyL.cons rfl (fun K hK => ?_) AllReadyL.nil
  rw [if_pos (by rfl)]
  obtain ⟨C, hC⟩ := hHeld.1
  refine wp_store_z 49 (.tmp 4) (.tmp 34) rfl _ R.cells rfl rfl 49 C.cells hC HI8.out rfl (cellz_all R) ?_
  intro w4 hA4 hF4
  refine hK.out _ _ (fun _ => ⟨⟨R, hA4⟩, hHeld.2.trans hF4 (by simp)⟩) (fun hHeld' => ?_); have hHeld := hHeld' (by decide); clear hHeld' hK K; (try (refine wpAnyL_norm (by simp only [Act.put, List.setIfInBounds_toArray, List.set_cons_zero, List.set_cons_succ]; rfl) ?_))
  refine wpAnyL_take (i := 21) (v := ?_) rfl (by kernel_rfl) (fun _ _ _ h => h) (Or.inl ⟨by rfl, ?_⟩) (by assumption) ?_; rotate_left; (focus (intro w hSw; skip; go_simp; (try with_reducible rfl))); (try (refine wpAnyL_norm (by simp only [Act.put, List.setIfInBounds_toArray, List.set_cons_zero, List.set_cons_succ]; rfl) ?_))
  refine wpAnyL_done (by kernel_rfl) ?_ _
  go_wp2_with fail
  exact bodyPost_ret (res_row_tmp rfl _ _ w.heap.size 49 R.cells _ rfl hA4 Tryz.underlying49 rfl HI8.out) rfl ⟨rfl, hHeld.2⟩
set_option maxRecDepth 100000 in
theorem rloadc_no (w : World) (r bb tb cb ct : Nat) (bs : List Nat) (f : Nat → Bool) (h : Ra w r bb tb cb ct bs f) (a : Nat) (ha : a < 4294967296) (hw : whB bs.length a = false) :
    Calls Tryz.prog 113 #[.pointer (some ⟨r, 0, none⟩), .int .u32 a] w fun e w' => e = .returned (.tuple #[.agg noC.cells, .bool false]) ∧ Fr [] w w' := by
  have F0 := Lib.hid (show Fr [] w (w.alloc (.cells noC.cells 49)) from (by repeat (first | exact Fr.refl _ _ | assumption | refine Fr.trans0 ?_ (by assumption) | refine Fr.drewN ?_ _ | refine Fr.alloc ?_ _ | refine Fr.drew ?_)))
  have CT := Lib.hid fun W (hW : Fr [] w W) => (show Calls Tryz.prog 72 #[.pointer (some ⟨r, 0, none⟩), .int .u32 a, .int .i64 16] W fun e w' => e = .returned (.bool (decide (a + 16 ≤ bs.length))) ∧ W = w' from by
    have := rthere_any W r bb tb cb ct bs f (h.fr0 hW) a ha 16 (by omega) (by omega)
    rw [show (16 : Int) = ((16 : Nat) : Int) from rfl, thB_nat] at this
    exact this)
  have t1 : (a : Int).tmod 16 = (a : Int) % 16 := Int.tmod_eq_emod_of_nonneg (by omega)
  have HI8 := Lib.hid (show (Tryz.prog.info? 49).map (·.size) = some noC.cells.size by kernel_rfl)
  unfold whB at hw
  by_cases hm : a % 16 = 0
  · have e1 : ((a : Int) % 16 != 0) = false := by simp; omega
    rw [decide_eq_true hm, Bool.true_and] at hw
    rw [hw] at CT
    clear h hm hw
    go_enter Tryz.func113, Tryz.ntmps113
    go_wp2_with fail
    refine (CT.out _ F0.out).mono ?_
    rintro e w' ⟨rfl, rfl⟩
    go_wp2_with (refine wpList_store_all (by rfl) 49 (.tmp 4) (.tmp 15) rfl w.heap.size noC.cells rfl rfl 49 noC.cells (At.nw rfl) HI8.out rfl (cellz_all noC) ?_; intro w9 hA9 hF9)
    exact bodyPost_ret (res_row_tmp rfl _ _ w.heap.size 49 noC.cells _ rfl hA9 Tryz.underlying49 rfl HI8.out) rfl ⟨rfl, F0.out.trans hF9 (by simp)⟩
  · have e1 : ((a : Int) % 16 != 0) = true := by simp; omega
    clear h hm hw CT
    go_enter Tryz.func113, Tryz.ntmps113
    go_wp2_with (refine wpList_store_all (by rfl) 49 (.tmp 4) (.tmp 15) rfl w.heap.size noC.cells rfl rfl 49 noC.cells (At.nw rfl) HI8.out rfl (cellz_all noC) ?_; intro w9 hA9 hF9)
    exact bodyPost_ret (res_row_tmp rfl _ _ w.heap.size 49 noC.cells _ rfl hA9 Tryz.underlying49 rfl HI8.out) rfl ⟨rfl, F0.out.trans hF9 (by simp)⟩
theorem rloadc_any (w : World) (r bb tb cb ct : Nat) (bs : List Nat) (f : Nat → Bool) (h : Ra w r bb tb cb ct bs f) (a : Nat) (ha : a < 4294967296) :
    Calls Tryz.prog 113 #[.pointer (some ⟨r, 0, none⟩), .int .u32 a] w fun e w' => e = .returned (.tuple #[.agg (ldC bs f a).cells, .bool (whB bs.length a)]) ∧ Fr [] w w' := by
  unfold ldC
  by_cases hw : whB bs.length a = true
  · rw [if_pos hw, hw]
    unfold whB at hw
    simp only [Bool.and_eq_true, decide_eq_true_eq] at hw
    exact rloadc_yes w r bb tb cb ct bs f h a hw.1 hw.2
  · rw [if_neg hw]
    rw [Bool.not_eq_true] at hw
    rw [hw]
    exact rloadc_no w r bb tb cb ct bs f h a ha hw
set_option maxRecDepth 100000 in
theorem runtag_any (w : World) (r bb tb cb ct : Nat) (bs : List Nat) (f : Nat → Bool) (h : Ra w r bb tb cb ct bs f) (a : Nat) (ha : a < 4294967296) :
    Calls Tryz.prog 115 #[.pointer (some ⟨r, 0, none⟩), .int .u32 a] w fun e w' => e = .returned (.bool (unB bs f a)) ∧ Ra w' r bb tb cb ct bs (if unB bs f a = true then upd f (a / 16) false else f) ∧ Fr [tb] w w' := by
  have hN := h.le
  have h16 := h.m16
  have H := Lib.hid h
  have c1 := h.c1
  have t1 : (a : Int).tmod 16 = (a : Int) % 16 := Int.tmod_eq_emod_of_nonneg (by omega)
  unfold unB whB
  by_cases hm : a % 16 = 0
  · have e1 : ((a : Int) % 16 != 0) = false := by simp; omega
    rw [decide_eq_true hm, Bool.true_and]
    by_cases hfit : a + 16 ≤ bs.length
    · rw [decide_eq_true hfit, Bool.true_and]
      have ct5 := h.tag (a / 16) (by omega)
      have zt5 := h.tfroz (a / 16)
      have u1 : (a : Int).tdiv 16 = ((a / 16 : Nat) : Int) := by rw [Int.tdiv_eq_ediv_of_nonneg (by omega)]; omega
      have u2 : (a : Int) / 16 = ((a / 16 : Nat) : Int) := by omega
      have u3 : IntKind.u32.wrap ((a / 16 : Nat) : Int) = ((a / 16 : Nat) : Int) := i32w _ (by omega)
      have u4 : IntKind.i64.wrap ((a / 16 : Nat) : Int) = ((a / 16 : Nat) : Int) := i64w _ (by omega)
      obtain ⟨A, hA⟩ : ∃ A, a / 16 = A := ⟨_, rfl⟩
      rw [hA] at u1 u2 u3 u4
      rw [hA] at ct5 zt5 ⊢
      have hAm : (A : Int) < ((bs.length / 16 : Nat) : Int) := by omega
      obtain ⟨M, hM⟩ : ∃ M, bs.length / 16 = M := ⟨_, rfl⟩
      rw [hM] at c1 hAm
      have hd : decide ((M : Int) ≤ (A : Int)) = false := decide_eq_false (by omega)
      obtain ⟨tg, htg⟩ : ∃ t, f A = t := ⟨_, rfl⟩
      rw [htg] at ct5 ⊢
      cases tg with
      | true =>
        rw [if_pos rfl]
        clear h hm hfit hA hM htg h16
        go_enter Tryz.func115, Tryz.ntmps115
        go_wp2_with fail
        go_ret
        exact ⟨rfl, H.out.setT A false, (Fr.refl _ _).set (.inl (by simp)) _⟩
      | false =>
        rw [if_neg (by simp)]
        clear h hm hfit hA hM htg h16
        go_enter Tryz.func115, Tryz.ntmps115
        go_wp2_with fail
        go_ret
        exact ⟨rfl, H.out, Fr.refl _ _⟩
    · rw [decide_eq_false hfit, Bool.false_and, if_neg (by simp)]
      have u1 : (a : Int).tdiv 16 = ((a / 16 : Nat) : Int) := by rw [Int.tdiv_eq_ediv_of_nonneg (by omega)]; omega
      have u2 : (a : Int) / 16 = ((a / 16 : Nat) : Int) := by omega
      have u3 : IntKind.u32.wrap ((a / 16 : Nat) : Int) = ((a / 16 : Nat) : Int) := i32w _ (by omega)
      have u4 : IntKind.i64.wrap ((a / 16 : Nat) : Int) = ((a / 16 : Nat) : Int) := i64w _ (by omega)
      obtain ⟨A, hA⟩ : ∃ A, a / 16 = A := ⟨_, rfl⟩
      rw [hA] at u1 u2 u3 u4
      have hAm : ((bs.length / 16 : Nat) : Int) ≤ (A : Int) := by omega
      obtain ⟨M, hM⟩ : ∃ M, bs.length / 16 = M := ⟨_, rfl⟩
      rw [hM] at c1 hAm
      have hd : decide ((M : Int) ≤ (A : Int)) = true := decide_eq_true (by omega)
      clear h hm hfit hA hM h16
      go_enter Tryz.func115, Tryz.ntmps115
      go_wp2_with fail
      go_ret
      exact ⟨rfl, H.out, Fr.refl _ _⟩
  · have e1 : ((a : Int) % 16 != 0) = true := by simp; omega
    rw [decide_eq_false hm, Bool.false_and, Bool.false_and, if_neg (by simp)]
    clear h hm h16
    go_enter Tryz.func115, Tryz.ntmps115
    go_wp2_with fail
    go_ret
    exact ⟨rfl, H.out, Fr.refl _ _⟩
end Go.Proofs.YthjbnbimfpbccaaGreatDoor
/-
  The reference's Tagged and New. Condition: numbers in their types' ranges; whole pages.
-/





set_option linter.unusedVariables false
namespace Go.Proofs.YthjbnbimfpbccaaGreatDoor
open Go.ChangeShapes Go.WideShapes Go.ChangeAt Go.RowKit
def rtg (f : Nat → Bool) (page : Int) (k : Nat) : List Nat := ((List.range k).filter fun i => f i && decide (((i / 16 : Nat) : Int) = page)).map fun i => 16 * i
theorem rtg_yes (f : Nat → Bool) (page : Int) (k : Nat) (h : f k = true) (h2 : ((k / 16 : Nat) : Int) = page) : rtg f page (k + 1) = rtg f page k ++ [16 * k] := by
  unfold rtg
  rw [List.range_succ, List.filter_append, List.map_append, List.filter_cons_of_pos (by rw [h, decide_eq_true h2]; rfl)]
  rfl
theorem rtg_no (f : Nat → Bool) (page : Int) (k : Nat) (h : ¬ (f k = true ∧ ((k / 16 : Nat) : Int) = page)) : rtg f page (k + 1) = rtg f page k := by
  unfold rtg
  rw [List.range_succ, List.filter_append, List.map_append]
  have : (f k && decide (((k / 16 : Nat) : Int) = page)) = false := by
    by_cases h1 : f k = true
    · rw [h1, decide_eq_false (fun h2 => h ⟨h1, h2⟩)]; rfl
    · rw [Bool.not_eq_true] at h1; rw [h1]; rfl
  rw [List.filter_cons_of_neg (by rw [this]; simp)]
  simp
theorem rtg_len (f : Nat → Bool) (page : Int) (k : Nat) : (rtg f page k).length ≤ k := by
  unfold rtg
  rw [List.length_map]
  exact Nat.le_trans (List.length_filter_le _ _) (by simp)
theorem rtg_is (f : Nat → Bool) (P : Nat) : ∀ k, rtg f P k = tagL f (16 * P) (min 16 (k - 16 * P))
  | 0 => by rw [Nat.zero_sub, Nat.min_zero]; rfl
  | k + 1 => by
    have ih := rtg_is f P k
    by_cases h : k / 16 = P
    · have e1 : min 16 (k - 16 * P) = k - 16 * P := by omega
      have e2 : min 16 (k + 1 - 16 * P) = k - 16 * P + 1 := by omega
      have e3 : 16 * P + (k - 16 * P) = k := by omega
      rw [e1] at ih
      rw [e2]
      by_cases hf : f k = true
      · rw [rtg_yes f P k hf (by omega), ih, tagL_yes f (16 * P) (k - 16 * P) (by rw [e3]; exact hf), e3, Nat.mul_comm k]
      · rw [rtg_no f P k (fun hx => hf hx.1), ih, tagL_no f (16 * P) (k - 16 * P) (by rw [e3]; simpa using hf)]
    · rw [rtg_no f P k (fun hx => h (by have := hx.2; omega)), ih]
      congr 1
      omega
theorem rtg_tgP (N : Nat) (hN : N % 256 = 0) (f : Nat → Bool) (page : Int) : rtg f page (N / 16) = tgP N f page := by
  unfold tgP
  by_cases hp : 0 ≤ page ∧ page < (N / 256 : Nat)
  · rw [if_pos hp]
    obtain ⟨P, rfl⟩ := Int.eq_ofNat_of_zero_le hp.1
    rw [rtg_is, Int.toNat_natCast]
    congr 1
    omega
  · rw [if_neg hp]
    unfold rtg
    rw [List.map_eq_nil_iff, List.filter_eq_nil_iff]
    intro i hi hx
    rw [List.mem_range] at hi
    rw [Bool.and_eq_true, decide_eq_true_eq] at hx
    omega
theorem built1u (w : World) (x : Int) : (Instr.buildSlice 51 1 #[(0, .int .u32 x)]).run Tryz.prog w = .ok (.slice (some ⟨w.heap.size, 0, none⟩) 1 1) (w.alloc (.cells #[.int .u32 x] 43)) := by kernel_rfl
set_option maxHeartbeats 1000000 in
set_option maxRecDepth 100000 in
theorem rtagged_any (w : World) (r bb tb cb ct : Nat) (bs : List Nat) (f : Nat → Bool) (h : Ra w r bb tb cb ct bs f) (hN : bs.length % 256 = 0) (page : Int) :
    Calls Tryz.prog 39 #[.pointer (some ⟨r, 0, none⟩), .int .i64 page] w fun e w' => ∃ v, e = .returned v ∧ w'.ownsRow w.heap.size 43 1 v (tgP bs.length f page).length (u32s (tgP bs.length f page)) ∧ Fr [] w w' := by
  obtain ⟨i0, hi, hz0, hz1, hz2⟩ := info_parts infoU32
  rw [← rtg_tgP bs.length hN f page]
  have hle := h.le
  have HC1 := Lib.hid fun W (hW : Fr [] w W) => (h.fr0 hW).c1
  have HTG := Lib.hid fun W (hW : Fr [] w W) => (h.fr0 hW).tag
  have hMb : bs.length / 16 ≤ 16384 := by omega
  obtain ⟨M, hM⟩ : ∃ M, bs.length / 16 = M := ⟨_, rfl⟩
  rw [hM] at HC1 HTG hMb ⊢
  clear h hN hle hM
  go_enter Tryz.func39, Tryz.ntmps39
  go_wp2_with fail
  go_loopw [5, 6] (fun o i wr => ∃ k : Nat, k ≤ M ∧ i = .int .i64 k ∧ wr.ownsRow w.heap.size 43 1 o (rtg f page k).length (u32s (rtg f page k)) ∧ Fr [] w wr) (fun _ i _ => M - (intOf i).toNat)
  case atStart => exact ⟨0, by omega, rfl, World.ownsRow_nil _ _ _ _, Fr.refl _ _⟩
  case round =>
    obtain ⟨k, hk, rfl, ho, hf⟩ := hrel
    have HO := Lib.hid ho
    have HF := Lib.hid hf
    have c1 := HC1.out _ hf
    have hsz := hf.size
    obtain ⟨n, hn⟩ : ∃ n, (rtg f page k).length = n := ⟨_, rfl⟩
    have hnb : n ≤ 16384 := by have := rtg_len f page k; omega
    rw [hn] at ho HO
    obtain ⟨va, vc, rfl, -⟩ := own_slice ho
    have HN := Lib.hid hn
    clear ho hf hn
    by_cases h1 : k < M
    · have ct := HTG.out _ HF.out k h1
      have hki : (k : Int) < (M : Int) := by omega
      have q0 : (k : Int) / 16 = ((k / 16 : Nat) : Int) := by omega
      by_cases hfk : f k = true
      · rw [hfk] at ct
        by_cases hp : ((k / 16 : Nat) : Int) = page
        · have hd : (((k / 16 : Nat) : Int) == page) = true := by simpa using hp
          have HY := Lib.hid (rtg_yes f page k hfk hp)
          obtain ⟨P, hP⟩ : ∃ P, k / 16 = P := ⟨_, rfl⟩
          rw [hP] at q0 hd
          clear hp hfk hP
          have HAL := Lib.hid (show At (wr.alloc (.cells #[.int .u32 ((16 * k : Nat) : Int)] 43)) wr.heap.size 43 #[.int .u32 ((16 * k : Nat) : Int)] from At.new _ _ _)
          have OY := Lib.hid (own_fr0 HO.out ((Fr.refl [] wr).alloc (.cells #[.int .u32 ((16 * k : Nat) : Int)] 43)))
          have hk16 : (16 : Int) * (k : Int) = ((16 * k : Nat) : Int) := by omega
          obtain ⟨K, hK⟩ : ∃ K, 16 * k = K := ⟨_, rfl⟩
          have hKb : K < 4294967296 := by omega
          rw [hK] at HAL OY hk16 HY
          clear hK
          go_wp2_with (first | (refine wpList_buildSlice rfl 51 1 _ _ _ _ (built1u _ _) rfl (by simp [go_sem]) ?_) | (at_builtin; refine wpList_append_own_at _ rfl (.tmp 29) (.tmp 33) 51 rfl w.heap.size 43 i0 (.int .u32 0) 1 4 Tryz.underlying51 hi hz0 hz1 hz2 rfl (by omega) (.slice va n vc) n _ rfl OY.out ⟨wr.heap.size, 0, none⟩ 1 1 [.int .u32 (K : Int)] rfl rfl (fun j u hu => by rw [Go.WideShapes.add_plain, Nat.zero_add, HAL.out.cell]; simpa using hu) (fun u hu => by simp at hu; subst hu; rfl) (by unfold maxLen; omega) (by omega) (by simp <;> omega) ?_; intro v9 w9 hown9 hg9 hnil9 hat9))
          have G9 := Lib.hid (Fr.app (HF.out.alloc (.cells #[.int .u32 (K : Int)] 43)) hg9 OY.out (Nat.le_refl _))
          have O9 := Lib.hid (show w9.ownsRow w.heap.size 43 1 v9 (rtg f page (k + 1)).length (u32s (rtg f page (k + 1))) from by rw [HY.out, u32s_snoc, List.length_append, HN.out]; exact hown9)
          clear hown9 hg9 hnil9 hat9 HAL OY
          go_roundw
          case rel => exact ⟨k + 1, by omega, by go_num, O9.out, G9.out⟩
          case measure => simp [intOf]; omega
        · have hd : (((k / 16 : Nat) : Int) == page) = false := by simpa using hp
          have HY := Lib.hid (rtg_no f page k (fun hx => hp hx.2))
          obtain ⟨P, hP⟩ : ∃ P, k / 16 = P := ⟨_, rfl⟩
          rw [hP] at q0 hd
          clear hp hfk hP
          go_wp2_with fail
          go_roundw
          case rel => exact ⟨k + 1, by omega, by go_num, by rw [HY.out, HN.out]; exact HO.out, HF.out⟩
          case measure => simp [intOf]; omega
      · have HY := Lib.hid (rtg_no f page k (fun hx => hfk hx.1))
        rw [Bool.not_eq_true] at hfk
        rw [hfk] at ct
        clear hfk
        go_wp2_with fail
        go_roundw
        case rel => exact ⟨k + 1, by omega, by go_num, by rw [HY.out, HN.out]; exact HO.out, HF.out⟩
        case measure => simp [intOf]; omega
    · obtain rfl : k = M := by omega
      go_wp2_with fail
      go_ret
      exact ⟨_, rfl, by rw [HN.out]; exact HO.out, HF.out⟩
/-- A new arena of the reference. -/
theorem rnewA_bad (w : World) (n e : Int) (h : (n < 16 ∧ e = 2) ∨ (1024 < n ∧ e = 3)) : Calls Tryz.prog 24 #[.int .i64 n] w fun r w' => r = .returned (.tuple #[.pointer none, .int .i64 e]) ∧ w = w' := by
  rcases h with ⟨h, rfl⟩ | ⟨h, rfl⟩
  · go_enter Tryz.func24, Tryz.ntmps24
    go_wp2_with fail
    go_ret2
    exact ⟨rfl, rfl⟩
  · have h2 : ¬ n < 16 := by omega
    go_enter Tryz.func24, Tryz.ntmps24
    go_wp2_with fail
    go_ret2
    exact ⟨rfl, rfl⟩
theorem infoBool : (Tryz.prog.info? 4).map (fun i => (i.zero, i.size, i.bytes)) = some (some (.bool false), 1, 1) := by kernel_rfl
theorem made_bls (n : Nat) : madeCells #[.bool false] n = (bls n fun _ => false).toArray := by
  rw [made_rep]
  unfold bls
  rw [List.map_const', List.length_range]
  simp
def newPost (w : World) (N : Nat) (e : Ending) (w' : World) : Prop := ∃ r bb tb cb ct, e = .returned (.tuple #[.pointer (some ⟨r, 0, none⟩), .int .i64 0]) ∧ Ra w' r bb tb cb ct (List.replicate N 0) (fun _ => false) ∧ w.heap.size ≤ r ∧ w.heap.size ≤ bb ∧ w.heap.size ≤ tb ∧ Fr [] w w'
set_option maxHeartbeats 1000000 in
set_option maxRecDepth 100000 in
theorem rnewA_any (w : World) (n : Nat) (h1 : 16 ≤ n) (h2 : n ≤ 1024) : Calls Tryz.prog 24 #[.int .i64 n] w (newPost w (256 * n)) := by
  obtain ⟨N, hN⟩ : ∃ N, 256 * n = N := ⟨_, rfl⟩
  have hNb : N ≤ 262144 := by omega
  have hN0 : N % 16 = 0 := by omega
  obtain ⟨M, hM⟩ : ∃ M, N / 16 = M := ⟨_, rfl⟩
  have hmk := fun W => run_make_row' (P := Tryz.prog) 22 5 (.int .u8 0) 1 Tryz.underlying22 infoU8 rfl .i64 .i64 N (by omega) (by omega) W
  have hmk2 := fun W => run_make_row' (P := Tryz.prog) 68 4 (.bool false) 1 Tryz.underlying68 infoBool rfl .i64 .i64 M (by omega) (by omega) W
  simp only [made_bys] at hmk
  simp only [made_bls] at hmk2
  have HZL := Lib.hid (show (List.replicate N 0).length = N by simp)
  obtain ⟨Z, hZ⟩ : ∃ Z, (bys (List.replicate N 0)).toArray = Z := ⟨_, rfl⟩
  obtain ⟨Y, hY⟩ : ∃ Y, (bls M fun _ => false).toArray = Y := ⟨_, rfl⟩
  have HZ := Lib.hid hZ
  have HY := Lib.hid hY
  have HMM := Lib.hid hM
  rw [hZ] at hmk
  rw [hY] at hmk2
  have g1 : (n : Int) * 256 = (N : Int) := by omega
  have g2 : IntKind.i64.wrap (N : Int) = (N : Int) := i64w _ (by omega)
  have g3 : (N : Int).tdiv 16 = (M : Int) := by rw [Int.tdiv_eq_ediv_of_nonneg (by omega)]; omega
  have g4 : (N : Int) / 16 = (M : Int) := by omega
  have g5 : IntKind.i64.wrap (M : Int) = (M : Int) := i64w _ (by omega)
  have k1 : ¬ (n : Int) < 16 := by omega
  have k2 : ¬ (n : Int) > 1024 := by omega
  have hMb : M ≤ 16384 := by omega
  rw [hN]
  clear hZ hY hM hN
  go_enter Tryz.func24, Tryz.ntmps24
  go_upto_region 5 with (fail)
  refine wp_region_L (fun W => Fr [] w W) [] (by kernel_rfl) (Fr.refl _ _).drew (fun hHeld => ?_)
  refine wpAnyL_take (i := 0) (v := ?_) rfl (by kernel_rfl) (fun _ _ _ h => h) (Or.inl ⟨by rfl, ?_⟩) (by assumption) ?_; rotate_left; (focus (intro w hSw; skip; go_simp; (try with_reducible rfl))); (try (refine wpAnyL_norm (by simp only [Act.put, List.setIfInBounds_toArray, List.set_cons_zero, List.set_cons_succ]; rfl) ?_))
  refine wpAnyL_take (i := 1) (v := ?_) rfl (by kernel_rfl) (fun _ _ _ h => h) (Or.inl ⟨by rfl, ?_⟩) (by assumption) ?_; rotate_left; (focus (intro w hSw; skip; go_simp; (try with_reducible rfl))); (try (refine wpAnyL_norm (by simp only [Act.put, List.setIfInBounds_toArray, List.set_cons_zero, List.set_cons_succ]; rfl) ?_))
  refine wpAnyL_take (i := 3) (v := ?_) rfl (by kernel_rfl) (fun _ _ _ h => h) (Or.inl ⟨by rfl, ?_⟩) (by assumption) ?_; rotate_left; (focus (intro w hSw; skip; go_simp; (try with_reducible rfl))); (try (refine wpAnyL_norm (by simp only [Act.put, List.setIfInBounds_toArray, List.set_cons_zero, List.set_cons_succ]; rfl) ?_))
  refine wpAnyL_take (i := 4) (v := ?_) rfl (by kernel_rfl) (fun _ _ _ h => h) (Or.inl ⟨by rfl, ?_⟩) (by assumption) ?_; rotate_left; (focus (intro w hSw; skip; go_simp; (try with_reducible rfl))); (try (refine wpAnyL_norm (by simp only [Act.put, List.setIfInBounds_toArray, List.set_cons_zero, List.set_cons_succ]; rfl) ?_))
  refine wpAnyL_take (i := 5) (v := ?_) rfl (by kernel_rfl) (fun _ _ _ h => h) (Or.inl ⟨by rfl, ?_⟩) (by assumption) ?_; rotate_left; (focus (intro w hSw; skip; go_simp; (try with_reducible rfl))); (try (refine wpAnyL_norm (by simp only [Act.put, List.setIfInBounds_toArray, List.set_cons_zero, List.set_cons_succ]; rfl) ?_))
  refine wpAnyL_ready (rs := [2, 6]) (by kernel_rfl) (by simp) ?_
  refine AllReadyL.cons rfl (fun K hK => ?_) (AllReadyL.cons rfl (fun K hK => ?_) AllReadyL.nil)
  · go_simp
    have hA0 : At (w.alloc (.cells Z 5)).drew w.heap.size 5 Z := At.new w 5 Z
    refine hK.out _ _ (fun _ => (show Fr [] w (w.alloc (.cells Z 5)).drew from ((Fr.refl _ _).alloc _).drew)) (fun hHeld' => ?_); have hHeld := hHeld' (by decide); clear hHeld' hK K; (try (refine wpAnyL_norm (by simp only [Act.put, List.setIfInBounds_toArray, List.set_cons_zero, List.set_cons_succ]; rfl) ?_))
    obtain ⟨w3, hw3⟩ : ∃ W, (w.alloc (.cells Z 5)).drew = W := ⟨_, rfl⟩
    rw [hw3] at hHeld hA0 ⊢
    refine wpAnyL_ready (rs := [6]) (by kernel_rfl) (by simp) ?_; refine AllReadyL.cons rfl (fun K hK => ?_) AllReadyL.nil
    go_simp
    have hB2 := At.new w3 4 Y
    have hB1 := hA0.old (.cells Y 4)
    have hb2 := hHeld.size
    have hb1 := Nat.le_refl w.heap.size
    refine hK.out _ _ (fun _ => hHeld.alloc (.cells Y 4)) (fun hHeld' => ?_); have hHeld := hHeld' (by decide); clear hHeld' hK K; (try (refine wpAnyL_norm (by simp only [Act.put, List.setIfInBounds_toArray, List.set_cons_zero, List.set_cons_succ]; rfl) ?_))
    obtain ⟨wn, hwn⟩ : ∃ W, w3.alloc (.cells Y 4) = W := ⟨_, rfl⟩
    obtain ⟨b2, hb2'⟩ : ∃ b, w3.heap.size = b := ⟨_, rfl⟩
    obtain ⟨b1, hb1'⟩ : ∃ b, w.heap.size = b := ⟨_, rfl⟩
    rw [hwn] at hHeld hB1 hB2 ⊢
    rw [hb2'] at hB2 hb2 ⊢
    have hb1 : w.heap.size ≤ b1 := by omega
    rw [hb1'] at hB1
    rw [hb1']
    refine wpAnyL_take (i := 7) (v := ?_) rfl (by kernel_rfl) (fun _ _ _ h => h) (Or.inl ⟨by rfl, ?_⟩) (by assumption) ?_; rotate_left; (focus (intro w hSw; skip; go_simp; (try with_reducible rfl))); (try (refine wpAnyL_norm (by simp only [Act.put, List.setIfInBounds_toArray, List.set_cons_zero, List.set_cons_succ]; rfl) ?_))
    refine wpAnyL_ready (rs := [8]) (by kernel_rfl) (by simp) ?_; refine AllReadyL.cons rfl (fun K hK => ?_) AllReadyL.nil
    go_simp
    have hfa : Fr [] wn (wn.alloc (.cells #[.slice (some ⟨b1, 0, none⟩) N N, .slice (some ⟨b2, 0, none⟩) M M] 133)) := (Fr.refl _ _).alloc _
    have hAX := At.new wn 133 #[.slice (some ⟨b1, 0, none⟩) N N, .slice (some ⟨b2, 0, none⟩) M M]
    have hwsz := hHeld.size
    refine hK.out _ _ (fun _ => hHeld.trans0 hfa) (fun hHeld' => ?_); have hHeld := hHeld' (by decide); clear hHeld' hK K; (try (refine wpAnyL_norm (by simp only [Act.put, List.setIfInBounds_toArray, List.set_cons_zero, List.set_cons_succ]; rfl) ?_))
    refine wpAnyL_take (i := 9) (v := ?_) rfl (by kernel_rfl) (fun _ _ _ h => h) (Or.inl ⟨by rfl, ?_⟩) (by assumption) ?_; rotate_left; (focus (intro w hSw; skip; go_simp; (try with_reducible rfl))); (try (refine wpAnyL_norm (by simp only [Act.put, List.setIfInBounds_toArray, List.set_cons_zero, List.set_cons_succ]; rfl) ?_))
    refine wpAnyL_take (i := 10) (v := ?_) rfl (by kernel_rfl) (fun _ _ _ h => h) (Or.inl ⟨by rfl, ?_⟩) (by assumption) ?_; rotate_left; (focus (intro w hSw; skip; go_simp; (try with_reducible rfl))); (try (refine wpAnyL_norm (by simp only [Act.put, List.setIfInBounds_toArray, List.set_cons_zero, List.set_cons_succ]; rfl) ?_))
    refine wpAnyL_done (by kernel_rfl) ?_ _
    go_wp2_with fail
    go_ret2
    exact ⟨_, b1, b2, N, M, rfl, ⟨by rw [HZL.out]; omega, by rw [HZL.out]; omega, Byt.rep N, by rw [HZL.out]; exact Nat.le_refl _, by omega, by rw [HZL.out]; omega, by omega, by rw [HZL.out, HMM.out]; exact hAX, ⟨Z, hB1.fr hfa (by simp), by rw [HZL.out, ← HZ.out]; simp [bys_len], by rw [HZL.out, ← HZ.out, List.take_of_length_le (by simp [bys_len])]⟩, ⟨Y, hB2.fr hfa (by simp), by rw [HZL.out, HMM.out, ← HY.out]; simp [bls_len], by rw [HZL.out, HMM.out, ← HY.out, List.take_of_length_le (by simp [bls_len])]⟩⟩, hwsz, hb1, hb2, hHeld⟩
  · go_simp
    have hA0 : At (w.alloc (.cells Y 4)).drew w.heap.size 4 Y := At.new w 4 Y
    refine hK.out _ _ (fun _ => (show Fr [] w (w.alloc (.cells Y 4)).drew from ((Fr.refl _ _).alloc _).drew)) (fun hHeld' => ?_); have hHeld := hHeld' (by decide); clear hHeld' hK K; (try (refine wpAnyL_norm (by simp only [Act.put, List.setIfInBounds_toArray, List.set_cons_zero, List.set_cons_succ]; rfl) ?_))
    obtain ⟨w3, hw3⟩ : ∃ W, (w.alloc (.cells Y 4)).drew = W := ⟨_, rfl⟩
    rw [hw3] at hHeld hA0 ⊢
    refine wpAnyL_ready (rs := [2]) (by kernel_rfl) (by simp) ?_; refine AllReadyL.cons rfl (fun K hK => ?_) AllReadyL.nil
    go_simp
    have hB1 := At.new w3 5 Z
    have hB2 := hA0.old (.cells Z 5)
    have hb1 := hHeld.size
    refine hK.out _ _ (fun _ => hHeld.alloc (.cells Z 5)) (fun hHeld' => ?_); have hHeld := hHeld' (by decide); clear hHeld' hK K; (try (refine wpAnyL_norm (by simp only [Act.put, List.setIfInBounds_toArray, List.set_cons_zero, List.set_cons_succ]; rfl) ?_))
    obtain ⟨wn, hwn⟩ : ∃ W, w3.alloc (.cells Z 5) = W := ⟨_, rfl⟩
    obtain ⟨b1, hb1'⟩ : ∃ b, w3.heap.size = b := ⟨_, rfl⟩
    obtain ⟨b2, hb2'⟩ : ∃ b, w.heap.size = b := ⟨_, rfl⟩
    rw [hwn] at hHeld hB1 hB2 ⊢
    rw [hb1'] at hB1 hb1 ⊢
    have hb2 : w.heap.size ≤ b2 := by omega
    rw [hb2'] at hB2
    rw [hb2']
    refine wpAnyL_take (i := 7) (v := ?_) rfl (by kernel_rfl) (fun _ _ _ h => h) (Or.inl ⟨by rfl, ?_⟩) (by assumption) ?_; rotate_left; (focus (intro w hSw; skip; go_simp; (try with_reducible rfl))); (try (refine wpAnyL_norm (by simp only [Act.put, List.setIfInBounds_toArray, List.set_cons_zero, List.set_cons_succ]; rfl) ?_))
    refine wpAnyL_ready (rs := [8]) (by kernel_rfl) (by simp) ?_; refine AllReadyL.cons rfl (fun K hK => ?_) AllReadyL.nil
    go_simp
    have hfa : Fr [] wn (wn.alloc (.cells #[.slice (some ⟨b1, 0, none⟩) N N, .slice (some ⟨b2, 0, none⟩) M M] 133)) := (Fr.refl _ _).alloc _
    have hAX := At.new wn 133 #[.slice (some ⟨b1, 0, none⟩) N N, .slice (some ⟨b2, 0, none⟩) M M]
    have hwsz := hHeld.size
    refine hK.out _ _ (fun _ => hHeld.trans0 hfa) (fun hHeld' => ?_); have hHeld := hHeld' (by decide); clear hHeld' hK K; (try (refine wpAnyL_norm (by simp only [Act.put, List.setIfInBounds_toArray, List.set_cons_zero, List.set_cons_succ]; rfl) ?_))
    refine wpAnyL_take (i := 9) (v := ?_) rfl (by kernel_rfl) (fun _ _ _ h => h) (Or.inl ⟨by rfl, ?_⟩) (by assumption) ?_; rotate_left; (focus (intro w hSw; skip; go_simp; (try with_reducible rfl))); (try (refine wpAnyL_norm (by simp only [Act.put, List.setIfInBounds_toArray, List.set_cons_zero, List.set_cons_succ]; rfl) ?_))
    refine wpAnyL_take (i := 10) (v := ?_) rfl (by kernel_rfl) (fun _ _ _ h => h) (Or.inl ⟨by rfl, ?_⟩) (by assumption) ?_; rotate_left; (focus (intro w hSw; skip; go_simp; (try with_reducible rfl))); (try (refine wpAnyL_norm (by simp only [Act.put, List.setIfInBounds_toArray, List.set_cons_zero, List.set_cons_succ]; rfl) ?_))
    refine wpAnyL_done (by kernel_rfl) ?_ _
    go_wp2_with fail
    go_ret2
    exact ⟨_, b1, b2, N, M, rfl, ⟨by rw [HZL.out]; omega, by rw [HZL.out]; omega, Byt.rep N, by rw [HZL.out]; exact Nat.le_refl _, by omega, by rw [HZL.out]; omega, by omega, by rw [HZL.out, HMM.out]; exact hAX, ⟨Z, hB1.fr hfa (by simp), by rw [HZL.out, ← HZ.out]; simp [bys_len], by rw [HZL.out, ← HZ.out, List.take_of_length_le (by simp [bys_len])]⟩, ⟨Y, hB2.fr hfa (by simp), by rw [HZL.out, HMM.out, ← HY.out]; simp [bls_len], by rw [HZL.out, HMM.out, ← HY.out, List.take_of_length_le (by simp [bls_len])]⟩⟩, hwsz, hb1, hb2, hHeld⟩
end Go.Proofs.YthjbnbimfpbccaaGreatDoor
/-
  What the reference of layer 3 tells of parts. No condition.
-/

set_option linter.unusedVariables false
namespace Go.Proofs.YthjbnbimfpbccaaGreatDoor
open Go.ChangeShapes Go.WideShapes Go.ChangeAt Go.RowKit
theorem r03turn_any (w : World) (x g : Nat) :
    Calls Tryz.prog 160 #[.int .i64 x, .int .i64 g] w fun r w' => r = .returned (.int .i64 (trn x g)) ∧ w = w' := by
  by_cases hx : x < g
  · have H : Hid (trn x g = 1) := Lib.hid (if_pos hx)
    go_enter Tryz.func160, Tryz.ntmps160
    go_wp2
    go_ret
    exact ⟨ret_int H.out.symm, rfl⟩
  · have H : Hid (trn x g = 0) := Lib.hid (if_neg hx)
    go_enter Tryz.func160, Tryz.ntmps160
    go_wp2
    go_ret
    exact ⟨ret_int H.out.symm, rfl⟩
set_option maxRecDepth 100000 in
theorem r03may_any (w : World) (e b t : Nat) :
    Calls Tryz.prog 159 #[.int .u8 e, .int .u16 b, .int .u16 t] w fun r w' => r = .returned (.bool (mayB e b t)) ∧ w = w' := by
  unfold mayB
  by_cases h1 : e ≤ 21 <;> by_cases h2 : b < 4096 <;> by_cases h3 : t < 4096
  all_goals
    go_enter Tryz.func159, Tryz.ntmps159
    go_wp2
    go_ret
    exact ⟨ret_bool (by simp [h1, h2, h3]; try omega), rfl⟩
theorem r03tell_no (w : World) (e b t c : Nat) (h : mayB e b t = false) :
    Calls Tryz.prog 158 #[.int .u8 e, .int .u16 b, .int .u16 t, .int .u32 c] w fun r w' => r = .returned (.tuple #[.int .i64 0, .int .i64 0, .bool false]) ∧ w = w' := by
  have C := Lib.hid (r03may_any w e b t)
  rw [h] at C
  go_enter Tryz.func158, Tryz.ntmps158
  go_wp2_with fail
  refine C.out.mono ?_
  rintro _ _ ⟨rfl, rfl⟩
  go_wp2_with fail
  exact bodyPost_ret (by simp [results, Tryz.results158, go_sem]) rfl ⟨rfl, rfl⟩
theorem wrap_of {x : Int} {y : Int} (h : x = y) (h1 : -9223372036854775808 ≤ y) (h2 : y ≤ 9223372036854775807) : RowKit.wrap64 x = y := by
  rw [← IntWalk.i64_left, h, IntWalk.i64_in _ (by omega)]
/-- What the reference reckons, part by part. -/
theorem of_parts (e b c x : Nat) (he : e ≤ 21) (hc : c < 4294967296) (hx : x < 4096) : ∃ (q q1 m U XU : Nat) (t1 t2 P : Int), 2 ^ e = U ∧ q = c / U ∧ q1 = c / (U * 4096) ∧ m = q % 4096 ∧ q ≤ c ∧ q1 ≤ 1048576 ∧ t1 = trn x (edgeN b) ∧ t2 = trn m (edgeN b) ∧ 0 ≤ t1 ∧ t1 ≤ 1 ∧ 0 ≤ t2 ∧ t2 ≤ 1 ∧
    P = ((q1 : Int) + t1 - t2) * U ∧ -2097152 ≤ P ∧ P ≤ 4194304 ∧ XU = x * U ∧ XU ≤ 8587837440 ∧ P * 4096 + XU = ofI (hiI e b c) e b x := by
  have hp := pw e he
  have b1 := trn_bd x (edgeN b)
  have b2 := trn_bd (c / 2 ^ e % 4096) (edgeN b)
  have h1 : c / (2 ^ e * 4096) * 2 ^ e ≤ 1048576 := by
    rw [Nat.mul_comm (2 ^ e) 4096, ← Nat.div_div_eq_div_mul]
    have h3 : c / 4096 / 2 ^ e * 2 ^ e ≤ c / 4096 := Nat.div_mul_le_self _ _
    omega
  have h2 : c / (2 ^ e * 4096) ≤ 1048576 := by
    have : c / (2 ^ e * 4096) ≤ c / 4096 := Nat.div_le_div_left (by omega) (by omega)
    omega
  have h4 : x * 2 ^ e ≤ 4095 * 2097152 := Nat.mul_le_mul (by omega) hp.2
  refine ⟨_, _, _, 2 ^ e, _, _, _, _, rfl, rfl, rfl, rfl, Nat.div_le_self _ _, h2, rfl, rfl, b1.1, b1.2, b2.1, b2.2, rfl, ?_, ?_, rfl, by omega, ?_⟩
  · generalize trn x (edgeN b) = t1 at *
    generalize trn (c / 2 ^ e % 4096) (edgeN b) = t2 at *
    have : (((c / (2 ^ e * 4096) : Nat) : Int) + t1 - t2) * ((2 ^ e : Nat) : Int) = ((c / (2 ^ e * 4096) * 2 ^ e : Nat) : Int) + (t1 - t2) * ((2 ^ e : Nat) : Int) := by
      rw [Int.add_sub_assoc, Int.add_mul]; simp
    rw [this]
    generalize c / (2 ^ e * 4096) * 2 ^ e = A at *
    generalize 2 ^ e = U at *
    rcases (show t1 - t2 = -1 ∨ t1 - t2 = 0 ∨ t1 - t2 = 1 by omega) with h | h | h <;> rw [h] <;> omega
  · generalize trn x (edgeN b) = t1 at *
    generalize trn (c / 2 ^ e % 4096) (edgeN b) = t2 at *
    have : (((c / (2 ^ e * 4096) : Nat) : Int) + t1 - t2) * ((2 ^ e : Nat) : Int) = ((c / (2 ^ e * 4096) * 2 ^ e : Nat) : Int) + (t1 - t2) * ((2 ^ e : Nat) : Int) := by
      rw [Int.add_sub_assoc, Int.add_mul]; simp
    rw [this]
    generalize c / (2 ^ e * 4096) * 2 ^ e = A at *
    generalize 2 ^ e = U at *
    rcases (show t1 - t2 = -1 ∨ t1 - t2 = 0 ∨ t1 - t2 = 1 by omega) with h | h | h <;> rw [h] <;> omega
  · unfold ofI hiI
    rw [Nat.div_div_eq_div_mul]
    generalize trn x (edgeN b) = t1 at *
    generalize trn (c / 2 ^ e % 4096) (edgeN b) = t2 at *
    generalize c / (2 ^ e * 4096) = q1 at *
    have e2 : (2 : Int) ^ e = ((2 ^ e : Nat) : Int) := by simp
    rw [e2]
    generalize 2 ^ e = U at *
    rw [Int.natCast_mul, Int.add_mul ((( (q1 : Int) - t2) + t1) * 4096), Int.mul_assoc, Int.mul_comm (U : Int) 4096, ← Int.mul_assoc]
    congr 3
    omega
set_option maxHeartbeats 1000000 in
set_option maxRecDepth 100000 in
theorem r03tell_yes (w : World) (e b t c : Nat) (he : e ≤ 21) (hb : b < 4096) (ht : t < 4096) (hc : c < 4294967296) :
    Calls Tryz.prog 158 #[.int .u8 e, .int .u16 b, .int .u16 t, .int .u32 c] w fun r w' => r = .returned (.tuple #[.int .i64 (ofI (hiI e b c) e b b), .int .i64 (ofI (hiI e b c) e b t), .bool (okB (ofI (hiI e b c) e b b) (ofI (hiI e b c) e b t))]) ∧ w = w' := by
  have C := Lib.hid (r03may_any w e b t)
  rw [show mayB e b t = true by simp [mayB, he, hb, ht]] at C
  have CT := Lib.hid fun W x g => r03turn_any W x g
  have PK1 := Lib.hid (of_parts e b c b he hc hb)
  have PK2 := Lib.hid (of_parts e b c t he hc ht)
  have hp := pw e he
  have hw : RowKit.wrap64 ((2 : Int) ^ e) = ((2 ^ e : Nat) : Int) := by
    rw [← IntWalk.i64_left, IntWalk.i64_in _ (by have : (2 : Int) ^ e = ((2 ^ e : Nat) : Int) := by simp
                                                 omega)]
    simp
  obtain ⟨U, hU⟩ : ∃ U : Nat, 2 ^ e = U := ⟨_, rfl⟩
  have HU := Lib.hid hU
  rw [hU] at hw hp
  have hw2 : RowKit.wrap64 ((U : Int) * 4096) = (U * 4096 : Nat) := by
    rw [← IntWalk.i64_left, IntWalk.i64_in _ (by omega)]
    simp
  go_enter Tryz.func158, Tryz.ntmps158
  go_wp2_with fail
  refine C.out.mono ?_
  rintro _ _ ⟨rfl, rfl⟩
  go_wp2_with fail
  obtain ⟨q, q1, m, U0, BU, t1, t2, P, hU0, hq, hq1, hm, bq, bq1, ht1, ht2, b1, b2, b3, b4, hP, b5, b6, hBU, b7, hX⟩ := PK1.out
  obtain ⟨q', q1', m', U', TU, t3, t2', P', hU', hq', hq1', hm', -, -, ht3, ht2', c1, c2, -, -, hP', c5, c6, hTU, c7, hY⟩ := PK2.out
  clear PK1 PK2
  obtain rfl : U = U0 := by rw [← hU, ← hU0]
  obtain rfl : U = U' := by rw [← hU, ← hU']
  obtain rfl : q = q' := by rw [hq, hq']
  obtain rfl : q1 = q1' := by rw [hq1, hq1']
  obtain rfl : m = m' := by rw [hm, hm']
  obtain rfl : t2 = t2' := by rw [ht2, ht2']
  have HX := Lib.hid hX
  have HY := Lib.hid hY
  obtain ⟨G, hG⟩ : ∃ G, edgeN b = G := ⟨_, rfl⟩
  rw [hG] at ht1 ht2 ht3
  have C1 := Lib.hid fun W => CT.out W b G
  have C2 := Lib.hid fun W => CT.out W m G
  have C3 := Lib.hid fun W => CT.out W t G
  rw [← ht1] at C1
  rw [← ht2] at C2
  rw [← ht3] at C3
  have W2 : RowKit.wrap64 ((c : Int) / ((U : Int) * 4096)) = (q1 : Int) := wrap_of (by rw [hq1]; simp) (by omega) (by omega)
  have W3 : RowKit.wrap64 ((c : Int) / (U : Int)) = (q : Int) := wrap_of (by rw [hq]; simp) (by omega) (by omega)
  have W4 : (q : Int).tmod 4096 = (m : Int) := by rw [hm]; rfl
  have W5 : ((b : Int) + 3072) % 4096 = (G : Int) := by rw [← hG]; unfold edgeN; omega
  have W6 := Lib.hid (show RowKit.wrap64 (((q1 : Int) + t1 - t2) * (U : Int)) = P from wrap_of hP.symm (by omega) (by omega))
  have W7 := Lib.hid (show RowKit.wrap64 (((q1 : Int) + t3 - t2) * (U : Int)) = P' from wrap_of hP'.symm (by omega) (by omega))
  have W8 := Lib.hid (show RowKit.wrap64 ((b : Int) * (U : Int)) = (BU : Int) from wrap_of (by rw [hBU]; simp) (by omega) (by omega))
  have W9 := Lib.hid (show RowKit.wrap64 ((t : Int) * (U : Int)) = (TU : Int) from wrap_of (by rw [hTU]; simp) (by omega) (by omega))
  simp only [W2, W3, W4, W5, hw]
  have HX1 := Lib.hid (And.intro b5 b6)
  have HX2 := Lib.hid (And.intro c5 c6)
  have HB7 := Lib.hid (And.intro b7 c7)
  have HC := Lib.hid (And.intro c1 c2)
  have HB3 := Lib.hid (And.intro b3 b4)
  clear W2 W3 W4 W5 hX hY hU hU' hq hq' hq1 hq1' hm hm' ht1 ht2 ht2' ht3 hP hP' hBU hTU hG bq b5 b6 b7 c5 c6 c7 b3 b4 c1 c2 hw hw2 hp CT
  refine (C1.out _).mono ?_
  rintro _ _ ⟨rfl, rfl⟩
  go_wp2_with fail
  refine (C2.out _).mono ?_
  rintro _ _ ⟨rfl, rfl⟩
  have b3 := HB3.out
  have w6 := W6.out
  have w8 := W8.out
  have b5 := HX1.out
  have b7 := HB7.out.1
  go_wp2_with fail
  obtain ⟨X, hXe⟩ : ∃ X : Int, P * 4096 + (BU : Int) = X := ⟨_, rfl⟩
  have hXb : -8589934592 ≤ X ∧ X ≤ 25769803776 := by omega
  rw [hXe]
  have HXe := Lib.hid hXe
  have HXb := Lib.hid hXb
  clear hXe hXb b5 b7 w6 w8
  refine (C3.out _).mono ?_
  rintro _ _ ⟨rfl, rfl⟩
  have b1 := HC.out
  go_wp2_with fail
  refine (C2.out _).mono ?_
  rintro _ _ ⟨rfl, rfl⟩
  have b3 := HB3.out
  have w6 := W7.out
  have w8 := W9.out
  have b5 := HX2.out
  have b7 := HB7.out.2
  go_upto_region 9 with (fail)
  obtain ⟨Y, hYe⟩ : ∃ Y : Int, P' * 4096 + (TU : Int) = Y := ⟨_, rfl⟩
  have hYb : -8589934592 ≤ Y ∧ Y ≤ 25769803776 := by omega
  rw [hYe]
  have HYe := Lib.hid hYe
  have hXb := HXb.out
  clear hYe b5 b7 w6 w8 b3 b1 bq1 hc hb ht he
  have HE : Hid (ofI (hiI e b c) e b b = X) := Lib.hid (by rw [← HX.out, HXe.out])
  have HF : Hid (ofI (hiI e b c) e b t = Y) := Lib.hid (by rw [← HY.out, HYe.out])
  clear HX HY HXe HYe
  rcases Int.lt_or_le X 0 with h0 | h0
  · have d0 : decide (0 ≤ X) = false := by simpa using h0
    go_wp2_with fail
    refine bodyPost_ret (v := .tuple #[.int .i64 X, .int .i64 Y, .bool (false)]) (by simp [results, Tryz.results158, go_sem]) rfl ⟨?_, rfl⟩
    rw [HE.out, HF.out]
    simp [okB]
    intros
    omega
  · rcases Int.lt_or_le Y X with h1 | h1
    · go_wp2_with fail
      refine bodyPost_ret (v := .tuple #[.int .i64 X, .int .i64 Y, .bool (false)]) (by simp [results, Tryz.results158, go_sem]) rfl ⟨?_, rfl⟩
      rw [HE.out, HF.out]
      simp [okB, h0]
      intros
      omega
    · go_wp2_with fail
      refine bodyPost_ret (v := .tuple #[.int .i64 X, .int .i64 Y, .bool (decide (Y ≤ 4294967296))]) (by simp [results, Tryz.results158, go_sem]) rfl ⟨?_, rfl⟩
      rw [HE.out, HF.out]
      simp [okB, h0, h1]
/-- Decode, by definition. -/
theorem r03dec_any (w : World) (e b t c : Nat) (hc : c < 4294967296) :
    Calls Tryz.prog 151 #[.int .u8 e, .int .u16 b, .int .u16 t, .int .u32 c] w fun r w' => r = .returned (.tuple #[.int .u32 (dBase e b t c), .int .u64 (dTop e b t c)]) ∧ w = w' := by
  unfold dBase dTop
  by_cases hm : mayB e b t = true
  · have hm2 := hm
    unfold mayB at hm2
    simp only [Bool.and_eq_true, decide_eq_true_eq] at hm2
    obtain ⟨h1, h2, h3⟩ := hm2
    have C := Lib.hid (r03tell_yes w e b t c h1 h2 h3 hc)
    have HD := Lib.hid (show dOk e b t c = (okB (ofI (hiI e b c) e b b) (ofI (hiI e b c) e b t) && !(ofI (hiI e b c) e b b == 4294967296)) by unfold dOk; rw [hm, Bool.true_and])
    rw [HD.out]
    generalize ofI (hiI e b c) e b b = X at *
    generalize ofI (hiI e b c) e b t = Y at *
    by_cases hk : okB X Y = true
    · rw [hk] at C ⊢
      have hk2 := hk
      unfold okB at hk2
      simp only [Bool.and_eq_true, decide_eq_true_eq] at hk2
      obtain ⟨k1, k2, k3⟩ := hk2
      by_cases hx : X = 4294967296
      · rw [hx]
        rw [hx] at C
        simp only [beq_self_eq_true, Bool.not_true, Bool.and_false, Bool.false_eq_true, if_false]
        clear hk hm HD hx k1 k2 k3
        go_enter Tryz.func151, Tryz.ntmps151
        go_wp2_with fail
        refine C.out.mono ?_
        rintro _ _ ⟨rfl, rfl⟩
        go_wp2_with fail
        go_ret2
        exact ⟨rfl, rfl⟩
      · have hx2 : (X == 4294967296) = false := by simpa using hx
        simp only [hx2, Bool.not_false, Bool.and_true, if_true]
        clear hk hm HD
        have k4 : X < 4294967296 := by omega
        go_enter Tryz.func151, Tryz.ntmps151
        go_wp2_with fail
        refine C.out.mono ?_
        rintro _ _ ⟨rfl, rfl⟩
        go_wp2_with fail
        go_ret2
        exact ⟨rfl, rfl⟩
    · have hk2 : okB X Y = false := by simpa using hk
      rw [hk2] at C ⊢
      simp only [Bool.false_and, Bool.false_eq_true, if_false]
      clear hk hm HD
      go_enter Tryz.func151, Tryz.ntmps151
      go_wp2_with fail
      refine C.out.mono ?_
      rintro _ _ ⟨rfl, rfl⟩
      go_wp2_with fail
      go_ret2
      exact ⟨rfl, rfl⟩
  · have hm2 : mayB e b t = false := by simpa using hm
    have C := Lib.hid (r03tell_no w e b t c hm2)
    have HD := Lib.hid (show dOk e b t c = false by unfold dOk; rw [hm2, Bool.false_and])
    rw [HD.out]
    simp only [Bool.false_eq_true, if_false]
    clear hm hm2
    go_enter Tryz.func151, Tryz.ntmps151
    go_wp2_with fail
    refine C.out.mono ?_
    rintro _ _ ⟨rfl, rfl⟩
    go_wp2_with fail
    go_ret2
    exact ⟨rfl, rfl⟩
end Go.Proofs.YthjbnbimfpbccaaGreatDoor
/-
  What the reference of layer 15 computes: a list of truths. Condition: at most 16384 granules.
-/


set_option linter.unusedVariables false
namespace Go.Proofs.YthjbnbimfpbccaaGreatDoor
open Go.ChangeShapes Go.WideShapes Go.ChangeAt Go.RowKit
theorem infoB : (Tryz.prog.info? 4).map (fun i => (i.zero, i.size, i.bytes)) = some (some (.bool false), 1, 1) := by kernel_rfl
theorem ret_iib {k l : IntKind} {a b c d : Int} {x : Value} (h : a = c) (g : b = d) : Ending.returned (.tuple #[.int k a, .int l b, x]) = .returned (.tuple #[.int k c, .int l d, x]) := by rw [h, g]
def Bs (b : Nat) (w : World) (v : Value) (n : Nat) (f : Nat → Bool) : Prop := w.ownsRow b 4 1 v n (bls n f)
theorem r15new_no (n : Int) (w : World) (hn : n < 0 ∨ ¬ n % 16 = 0 ∨ 262144 < n) :
    Calls Tryz.prog 116 #[.int .i64 n] w fun r w' => r = .returned (.tuple #[.agg #[.slice none 0 0], .bool false]) ∧ Fr [] w w' := by
  by_cases h0 : n < 0
  · clear hn
    go_enter Tryz.func116, Tryz.ntmps116
    go_wp2
    exact bodyPost_ret (v := .tuple #[.agg #[.slice none 0 0], .bool false]) (by simp [results, Tryz.results116, go_sem]) rfl ⟨rfl, (by repeat (first | exact Fr.refl _ _ | assumption | refine Fr.trans0 ?_ (by assumption) | refine Fr.drewN ?_ _ | refine Fr.alloc ?_ _ | refine Fr.drew ?_))⟩
  · by_cases h1 : n % 16 = 0
    · have h2 : 262144 < n := by omega
      have h0' : 0 ≤ n := by omega
      have e1 : (n % 16 != 0) = false := by simp; omega
      clear hn h1
      go_enter Tryz.func116, Tryz.ntmps116
      go_wp2
      exact bodyPost_ret (v := .tuple #[.agg #[.slice none 0 0], .bool false]) (by simp [results, Tryz.results116, go_sem]) rfl ⟨rfl, (by repeat (first | exact Fr.refl _ _ | assumption | refine Fr.trans0 ?_ (by assumption) | refine Fr.drewN ?_ _ | refine Fr.alloc ?_ _ | refine Fr.drew ?_))⟩
    · have h0' : 0 ≤ n := by omega
      have e1 : (n % 16 != 0) = true := by simp; omega
      clear hn h1
      go_enter Tryz.func116, Tryz.ntmps116
      go_wp2
      exact bodyPost_ret (v := .tuple #[.agg #[.slice none 0 0], .bool false]) (by simp [results, Tryz.results116, go_sem]) rfl ⟨rfl, (by repeat (first | exact Fr.refl _ _ | assumption | refine Fr.trans0 ?_ (by assumption) | refine Fr.drewN ?_ _ | refine Fr.alloc ?_ _ | refine Fr.drew ?_))⟩
set_option maxRecDepth 100000 in
theorem r15new_yes (n : Nat) (w : World) (hn : n ≤ 16384) :
    Calls Tryz.prog 116 #[.int .i64 (16 * n : Nat)] w fun r w' => ∃ v, r = .returned (.tuple #[.agg #[v], .bool true]) ∧ Bs w.heap.size w' v n (fun _ => false) ∧ Fr [] w w' := by
  obtain ⟨i0, hi, hz0, hz1, hz2⟩ := info_parts infoB
  obtain ⟨b, hb⟩ : ∃ b, 16 * n = b := ⟨_, rfl⟩
  have e1 : (b : Int) / 16 = n := by omega
  have e2 : ((b : Int) % 16 != 0) = false := by simp; omega
  rw [hb]
  have hb2 : b ≤ 262144 := by omega
  clear hb
  have a0 := (At.new w 147 #[.slice none 0 0]).old (.cells #[.slice none 0 0] 147)
  have a1 := At.new (w.alloc (.cells #[.slice none 0 0] 147)) 147 #[.slice none 0 0]
  rw [World.size_alloc] at a1
  have hf0 : Fr [] w ((w.alloc (.cells #[.slice none 0 0] 147)).alloc (.cells #[.slice none 0 0] 147)) := (by repeat (first | exact Fr.refl _ _ | assumption | refine Fr.trans0 ?_ (by assumption) | refine Fr.drewN ?_ _ | refine Fr.alloc ?_ _ | refine Fr.drew ?_))
  have A0 := Lib.hid a0
  have A1 := Lib.hid a1
  have HF := Lib.hid hf0
  clear a0 a1 hf0
  go_enter Tryz.func116, Tryz.ntmps116
  go_wp2
  go_loopw [5] (fun i wr => ∃ (k : Nat) (v : Value), k ≤ n ∧ i = .int .i64 k ∧ At wr w.heap.size 147 #[.slice none 0 0] ∧ At wr (w.heap.size + 1) 147 #[v] ∧ wr.ownsRow (w.heap.size + 1 + 1) 4 1 v k (bls k fun _ => false) ∧ Fr [] w wr) (fun i _ => n - (intOf i).toNat)
  case atStart => exact ⟨0, _, by omega, rfl, A0.out, A1.out, World.ownsRow_nil _ _ _ _, HF.out⟩
  case round =>
    obtain ⟨k, v, hk, rfl, h0, h1, hown, hf⟩ := hrel
    have H0 := Lib.hid h0
    have H1 := Lib.hid h1
    have HO := Lib.hid hown
    have c1 := h1.cell 0
    have c0 := h0.cell 0
    have f1 := h1.froz 0
    have f0 := h0.froz 0
    simp only [List.getElem?_toArray, List.getElem?_cons_zero] at c1 c0
    have hsz := h1.lt
    clear h0 h1 hown
    by_cases hkn : k < n
    · go_wp2_with (at_builtin; refine wpList_append_own_at _ rfl (.tmp 25) (.tmp 26) 68 rfl (w.heap.size + 1 + 1) 4 i0 (.bool false) 1 1 Tryz.underlying68 hi hz0 hz1 hz2 rfl (by omega) v k (bls k fun _ => false) rfl (HO.out.alloc _) ⟨wr.heap.size, 0, none⟩ 1 1 [.bool false] rfl rfl (cell_one_new _ _ _) (by simp [Value.oneCell']) (by unfold maxLen; omega) (by omega) (by simp; omega) ?_; intro v1 w1 hown1 hg1 hnil1 hat1; obtain ⟨av, cv, rfl, hcv⟩ := own_slice hown1; have hfr := Fr.grown hg1; have n0 := ((H0.out.old (.cells #[.bool false] 4)).fr hfr (own_toList HO.out H0.out (by decide))); have n1 := ((H1.out.old (.cells #[.bool false] 4)).fr hfr (own_toList HO.out H1.out (by decide))); have q1 := n1.cell 0; have q2 := n1.froz 0; have N0 := Lib.hid n0; have N1 := Lib.hid n1; have HO1 := Lib.hid hown1; have hf1 := (hf.alloc (.cells #[.bool false] 4)).app hg1 (HO.out.alloc _) (by omega); clear n0 n1 hfr hown1 hnil1 hat1)
      go_roundw
      case rel =>
        refine ⟨k + 1, _, by omega, by go_num, N0.out.far (show w.heap.size ≠ w.heap.size + 1 by omega) _, N1.out.set 0 _, ?_, hf1.set (.inr (by show w.heap.size ≤ w.heap.size + 1; omega)) _⟩
        rw [← bls_snoc]
        exact own_fr HO1.out ((Fr.refl [w.heap.size + 1] _).set (.inl (by simp)) _) (fun g hg => by simp; exact own_ne HO1.out N1.out (by decide) g hg)
      case measure => simp [intOf]; omega
    · obtain rfl : k = n := by omega
      obtain ⟨av, cv, rfl, hcv⟩ := own_slice HO.out
      go_wp2
      have q0 := (H0.out.set 0 (.slice av k cv)).cell 0
      refine bodyPost_ret (v := .tuple #[.agg #[.slice av k cv], .bool true]) (by simp [results, Tryz.results116, go_sem, q0]) rfl ⟨_, rfl, ?_, hf.set (.inr (Nat.le_refl _)) _⟩
      refine own_base (own_fr HO.out ((Fr.refl [w.heap.size] _).set (.inl (by simp)) _) (fun g hg => by simp; exact own_ne HO.out H0.out (by decide) g hg)) (by omega)
theorem r15has_any (w : World) (b : Nat) (v : Value) (n : Nat) (f : Nat → Bool) (h : Bs b w v n f) (hn : n ≤ 16384) (a : Int) (ha : 0 ≤ a) (ha2 : a ≤ 4294967295) :
    Calls Tryz.prog 139 #[.agg #[v], .int .u32 a] w fun r w' => r = .returned (.bool (hasP n f a)) ∧ Fr [] w w' := by
  obtain ⟨av, cv, rfl, hcv⟩ := own_slice h
  by_cases hlt : a / 16 < n
  · obtain ⟨g, c, hv, _, _, hgw, hcl, _⟩ := own_open h (by omega)
    injection hv with hv1 hv2 hv3
    subst hv1 hv3
    have hck := (hcl (a / 16).toNat (by omega)).trans (bls_get n f (a / 16).toNat (by omega))
    have hix : ((a / 16).toNat : Int) = a / 16 := by omega
    obtain ⟨x, hx⟩ : ∃ x, f (a / 16).toNat = x := ⟨_, rfl⟩
    have hr : Hid (hasP n f a = x) := Lib.hid (by unfold hasP inR; rw [hx]; simp; omega)
    rw [hx] at hck
    clear hcl hx h
    go_enter Tryz.func139, Tryz.ntmps139
    go_wp2
    go_ret
    exact ⟨ret_bool hr.out.symm, (by repeat (first | exact Fr.refl _ _ | assumption | refine Fr.trans0 ?_ (by assumption) | refine Fr.drewN ?_ _ | refine Fr.alloc ?_ _ | refine Fr.drew ?_))⟩
  · have hr : Hid (hasP n f a = false) := Lib.hid (by unfold hasP inR; simp; omega)
    clear h
    go_enter Tryz.func139, Tryz.ntmps139
    go_wp2
    go_ret
    exact ⟨ret_bool hr.out.symm, (by repeat (first | exact Fr.refl _ _ | assumption | refine Fr.trans0 ?_ (by assumption) | refine Fr.drewN ?_ _ | refine Fr.alloc ?_ _ | refine Fr.drew ?_))⟩
theorem r15gran_no (w : World) (b : Nat) (v : Value) (n : Nat) (f : Nat → Bool) (h : Bs b w v n f) (hn : n ≤ 16384) (a s : Int) (ha : 0 ≤ a) (ha2 : a ≤ 4294967295) (hs : 0 ≤ s) (hs2 : s ≤ 4294967295) (hb : ¬ (a % 16 = 0 ∧ s % 16 = 0 ∧ 0 < s ∧ a + s ≤ 16 * n)) :
    Calls Tryz.prog 152 #[.agg #[v], .agg #[.int .u32 a, .int .u32 s]] w fun r w' => r = .returned (.tuple #[.int .i64 0, .int .i64 0, .bool false]) ∧ Fr [] w w' := by
  obtain ⟨av, cv, rfl, hcv⟩ := own_slice h
  clear h
  by_cases h1 : a % 16 = 0
  · have e1 : (a % 16 != 0) = false := by simp; omega
    by_cases h2 : s % 16 = 0
    · have e2 : (s % 16 != 0) = false := by simp; omega
      by_cases h3 : s = 0
      · subst h3
        clear hb h1 h2
        go_enter Tryz.func152, Tryz.ntmps152
        go_wp2
        go_ret3
        exact ⟨rfl, (by repeat (first | exact Fr.refl _ _ | assumption | refine Fr.trans0 ?_ (by assumption) | refine Fr.drewN ?_ _ | refine Fr.alloc ?_ _ | refine Fr.drew ?_))⟩
      · have e3 : (s == 0) = false := by simp; omega
        have h4 : (n : Int) * 16 < a + s := by omega
        clear hb h1 h2 h3
        go_enter Tryz.func152, Tryz.ntmps152
        go_wp2
        go_ret3
        exact ⟨rfl, (by repeat (first | exact Fr.refl _ _ | assumption | refine Fr.trans0 ?_ (by assumption) | refine Fr.drewN ?_ _ | refine Fr.alloc ?_ _ | refine Fr.drew ?_))⟩
    · have e2 : (s % 16 != 0) = true := by simp; omega
      clear hb h1 h2
      go_enter Tryz.func152, Tryz.ntmps152
      go_wp2
      go_ret3
      exact ⟨rfl, (by repeat (first | exact Fr.refl _ _ | assumption | refine Fr.trans0 ?_ (by assumption) | refine Fr.drewN ?_ _ | refine Fr.alloc ?_ _ | refine Fr.drew ?_))⟩
  · have e1 : (a % 16 != 0) = true := by simp; omega
    clear hb h1
    go_enter Tryz.func152, Tryz.ntmps152
    go_wp2
    go_ret3
    exact ⟨rfl, (by repeat (first | exact Fr.refl _ _ | assumption | refine Fr.trans0 ?_ (by assumption) | refine Fr.drewN ?_ _ | refine Fr.alloc ?_ _ | refine Fr.drew ?_))⟩
theorem r15gran_yes (w : World) (b : Nat) (v : Value) (n : Nat) (f : Nat → Bool) (h : Bs b w v n f) (hn : n ≤ 16384) (a s : Int) (A R : Nat) (ha : a = (16 * A : Nat)) (hs : s = (16 * R : Nat)) (hR : 1 ≤ R) (hAR : A + R ≤ n) :
    Calls Tryz.prog 152 #[.agg #[v], .agg #[.int .u32 a, .int .u32 s]] w fun r w' => r = .returned (.tuple #[.int .i64 A, .int .i64 (A + R : Nat), .bool true]) ∧ Fr [] w w' := by
  obtain ⟨av, cv, rfl, hcv⟩ := own_slice h
  clear h
  have e1 : (a % 16 != 0) = false := by simp; omega
  have e2 : (s % 16 != 0) = false := by simp; omega
  have e3 : (s == 0) = false := by simp; omega
  have h4 : ¬ (n : Int) * 16 < a + s := by omega
  have h5 : 0 ≤ a ∧ a ≤ 262144 ∧ 0 ≤ s ∧ s ≤ 262144 := by omega
  obtain ⟨h5, h6, h7, h8⟩ := h5
  have h9 := Lib.hid (show a / 16 = A ∧ (a + s) / 16 = (A + R : Nat) by omega)
  clear ha hs
  go_enter Tryz.func152, Tryz.ntmps152
  go_wp2
  go_ret3
  exact ⟨ret_iib h9.out.1 h9.out.2, (by repeat (first | exact Fr.refl _ _ | assumption | refine Fr.trans0 ?_ (by assumption) | refine Fr.drewN ?_ _ | refine Fr.alloc ?_ _ | refine Fr.drew ?_))⟩
theorem okP_zero (f : Nat → Bool) (A : Nat) (tb : Bool) : okP f A 0 tb = true := rfl
theorem okP_succ (f : Nat → Bool) (A t : Nat) (tb : Bool) : okP f A (t + 1) tb = (okP f A t tb && (f (A + t) != tb)) := by
  unfold okP
  rw [List.range_succ, List.all_append]
  simp
theorem setP_zero (f : Nat → Bool) (A : Nat) (tb : Bool) : setP f A 0 tb = f := funext fun i => by unfold setP; rw [if_neg (by omega)]
theorem setP_succ (f : Nat → Bool) (A t : Nat) (tb : Bool) : upd (setP f A t tb) (A + t) tb = setP f A (t + 1) tb := funext fun i => by
  unfold upd setP
  by_cases e : i = A + t
  · subst e; rw [if_pos rfl, if_pos (by omega)]
  · rw [if_neg e]
    by_cases h : A ≤ i ∧ i < A + t
    · rw [if_pos h, if_pos (by omega)]
    · rw [if_neg h, if_neg (by omega)]
theorem r15chg_no (w : World) (b : Nat) (v : Value) (n : Nat) (f : Nat → Bool) (h : Bs b w v n f) (hn : n ≤ 16384) (a s : Int) (tb : Bool) (ha : 0 ≤ a) (ha2 : a ≤ 4294967295) (hs : 0 ≤ s) (hs2 : s ≤ 4294967295) (hb : ¬ (a % 16 = 0 ∧ s % 16 = 0 ∧ 0 < s ∧ a + s ≤ 16 * n)) :
    Calls Tryz.prog 140 #[.agg #[v], .agg #[.int .u32 a, .int .u32 s], .bool tb] w fun r w' => r = .returned (.tuple #[.agg #[v], .bool false]) ∧ Fr [] w w' := by
  have C := Lib.hid fun (W : World) (hW : Fr [] w W) => r15gran_no W b v n f (own_fr0 h hW) hn a s ha ha2 hs hs2 hb
  obtain ⟨av, cv, rfl, hcv⟩ := own_slice h
  clear h hb
  go_enter Tryz.func140, Tryz.ntmps140
  go_wp2_with (go_at_call 152; refine (C.out _ (by repeat (first | exact Fr.refl _ _ | assumption | refine Fr.trans0 ?_ (by assumption) | refine Fr.drewN ?_ _ | refine Fr.alloc ?_ _ | refine Fr.drew ?_))).mono ?_; rintro e w2 ⟨rfl, hf2⟩)
  refine wp_loop_rounds 1 ?_
  rw [rounds_succ]
  have a0 := ((At.new w 147 #[.slice av n cv]).fr (S := []) (w' := w2) (Fr.trans0 (by repeat (first | exact Fr.refl _ _ | assumption | refine Fr.trans0 ?_ (by assumption) | refine Fr.drewN ?_ _ | refine Fr.alloc ?_ _ | refine Fr.drew ?_)) hf2) (by simp))
  have a2 := ((At.new ((w.alloc (.cells #[.slice av n cv] 147)).alloc (.cells #[.int .u32 a, .int .u32 s] 45)) 147 #[.slice none 0 0]).fr (S := []) (w' := w2) (Fr.trans0 (by repeat (first | exact Fr.refl _ _ | assumption | refine Fr.trans0 ?_ (by assumption) | refine Fr.drewN ?_ _ | refine Fr.alloc ?_ _ | refine Fr.drew ?_)) hf2) (by simp))
  simp only [World.size_alloc] at a2
  have c0 := a0.cell 0
  have c2 := a2.cell 0
  have f2 := a2.froz 0
  simp only [List.getElem?_toArray, List.getElem?_cons_zero] at c0 c2
  go_wp2
  have q0 := (a2.set 0 (.slice av n cv)).cell 0
  refine bodyPost_ret (v := .tuple #[.agg #[.slice av n cv], .bool false]) (by simp [results, Tryz.results140, go_sem, q0]) rfl ⟨rfl, Fr.set (Fr.trans0 (by repeat (first | exact Fr.refl _ _ | assumption | refine Fr.trans0 ?_ (by assumption) | refine Fr.drewN ?_ _ | refine Fr.alloc ?_ _ | refine Fr.drew ?_)) hf2) (.inr (by show w.heap.size ≤ w.heap.size + 1 + 1; omega)) _⟩
/-- What change of the reference answers. -/
def R15 (w : World) (b : Nat) (n : Nat) (f : Nat → Bool) (A R : Nat) (tb : Bool) (e : Ending) (w' : World) : Prop :=
  (∃ v', e = .returned (.tuple #[.agg #[v'], .bool (okP f A R tb)]) ∧ Bs (if okP f A R tb = true then w.heap.size else b) w' v' n (chgF f A R tb)) ∧ Fr [] w w'
theorem r15_no {w w' : World} {b n : Nat} {f : Nat → Bool} {A R : Nat} {tb : Bool} {v : Value} (ho : okP f A R tb = false) (h : Bs b w' v n f) (hf : Fr [] w w') : R15 w b n f A R tb (.returned (.tuple #[.agg #[v], .bool false])) w' := by
  unfold R15 chgF
  rw [ho, if_neg (by simp), if_neg (by simp)]
  exact ⟨⟨v, rfl, h⟩, hf⟩
theorem r15_yes {w w' : World} {b n : Nat} {f : Nat → Bool} {A R : Nat} {tb : Bool} {v : Value} (ho : okP f A R tb = true) (h : Bs w.heap.size w' v n (setP f A R tb)) (hf : Fr [] w w') : R15 w b n f A R tb (.returned (.tuple #[.agg #[v], .bool true])) w' := by
  unfold R15 chgF
  rw [ho, if_pos rfl, if_pos rfl]
  exact ⟨⟨v, rfl, h⟩, hf⟩
set_option maxHeartbeats 1000000 in
theorem r15chg_yes (w : World) (b : Nat) (v : Value) (n : Nat) (f : Nat → Bool) (h : Bs b w v n f) (hn : n ≤ 16384) (a s : Int) (tb : Bool) (A R : Nat) (ha : a = (16 * A : Nat)) (hs : s = (16 * R : Nat)) (hR : 1 ≤ R) (hAR : A + R ≤ n) :
    Calls Tryz.prog 140 #[.agg #[v], .agg #[.int .u32 a, .int .u32 s], .bool tb] w (R15 w b n f A R tb) := by
  obtain ⟨i0, hi, hz0, hz1, hz2⟩ := info_parts infoB
  have C := Lib.hid fun (W : World) (hW : Fr [] w W) => r15gran_yes W b v n f (own_fr0 h hW) hn a s A R ha hs hR hAR
  have H := Lib.hid h
  obtain ⟨g, cv, rfl, hcv, hbg, hgw, hcell, hfz⟩ := own_open h (by omega)
  have HC := Lib.hid hcell
  clear h ha hs hcell hfz
  go_enter Tryz.func140, Tryz.ntmps140
  go_wp2_with (go_at_call 152; refine (C.out _ (by repeat (first | exact Fr.refl _ _ | assumption | refine Fr.trans0 ?_ (by assumption) | refine Fr.drewN ?_ _ | refine Fr.alloc ?_ _ | refine Fr.drew ?_))).mono ?_; rintro e w2 ⟨rfl, hf2⟩)
  have a0 := ((At.new w 147 #[.slice (some ⟨g, 0, none⟩) n cv]).fr (S := []) (w' := w2) (Fr.trans0 (by repeat (first | exact Fr.refl _ _ | assumption | refine Fr.trans0 ?_ (by assumption) | refine Fr.drewN ?_ _ | refine Fr.alloc ?_ _ | refine Fr.drew ?_)) hf2) (by simp))
  have a2 := ((At.new ((w.alloc (.cells #[.slice (some ⟨g, 0, none⟩) n cv] 147)).alloc (.cells #[.int .u32 a, .int .u32 s] 45)) 147 #[.slice none 0 0]).fr (S := []) (w' := w2) (Fr.trans0 (by repeat (first | exact Fr.refl _ _ | assumption | refine Fr.trans0 ?_ (by assumption) | refine Fr.drewN ?_ _ | refine Fr.alloc ?_ _ | refine Fr.drew ?_)) hf2) (by simp))
  simp only [World.size_alloc] at a2
  have hfw : Fr [] w w2 := Fr.trans0 (by repeat (first | exact Fr.refl _ _ | assumption | refine Fr.trans0 ?_ (by assumption) | refine Fr.drewN ?_ _ | refine Fr.alloc ?_ _ | refine Fr.drew ?_)) hf2
  have HF := Lib.hid hfw
  have H2 := Lib.hid (own_fr0 H.out hfw)
  have hc2 := Lib.hid fun k hk => (hfw.cell (a := ⟨g, k, none⟩) hgw (by simp)).trans (HC.out k hk)
  have c0 := a0.cell 0
  have c2 := a2.cell 0
  have f2 := a2.froz 0
  simp only [List.getElem?_toArray, List.getElem?_cons_zero] at c0 c2
  have A0 := Lib.hid a0
  have A2 := Lib.hid a2
  have hwz := a2.lt
  clear hfw hf2 a0 a2 H HC C
  go_loop [10, 11] (fun o i => ∃ t : Nat, t ≤ R ∧ i = .int .i64 ((A + t : Nat) : Int) ∧ o = .bool (okP f A t tb)) (fun _ i => A + R - (intOf i).toNat)
  case atStart => exact ⟨0, by omega, by simp, rfl⟩
  case round =>
    obtain ⟨t, ht, rfl, rfl⟩ := hrel
    by_cases htR : t < R
    · have hct := (hc2.out (A + t) (by omega)).trans (bls_get n f (A + t) (by omega))
      have HS := Lib.hid (okP_succ f A t tb)
      cases hok : okP f A t tb
      · have HO := Lib.hid hok
        clear hok
        go_wp2
        go_round
        case rel => exact ⟨t + 1, by omega, by go_num, by rw [HS.out, HO.out]; rfl⟩
        case measure => simp [intOf]; omega
      · have HO := Lib.hid hok
        clear hok
        obtain ⟨x, hx⟩ : ∃ x, f (A + t) = x := ⟨_, rfl⟩
        rw [hx] at hct HS
        clear hx
        go_wp2
        go_round
        case rel => exact ⟨t + 1, by omega, by go_num, by rw [HS.out, HO.out]; rfl⟩
        case measure => simp [intOf]; omega
    · obtain rfl : t = R := by omega
      cases hok : okP f A t tb
      · have HO := Lib.hid hok
        clear hok
        go_wp2
        have q0 := (A2.out.set 0 (.slice (some ⟨g, 0, none⟩) n cv)).cell 0
        refine bodyPost_ret (v := .tuple #[.agg #[.slice (some ⟨g, 0, none⟩) n cv], .bool false]) (by simp [results, Tryz.results140, go_sem, q0]) rfl (r15_no HO.out ?_ (HF.out.set (.inr (by show w.heap.size ≤ w.heap.size + 1 + 1; omega)) _))
        exact own_fr H2.out ((Fr.refl [w.heap.size + 1 + 1] _).set (.inl (by simp)) _) (fun g' hg => by simp [Value.ownBlock] at hg ⊢; omega)
      · have HO := Lib.hid hok
        clear hok
        have hnw := Lib.hid (H2.out.cells (g := g) rfl)
        go_wp2_with (at_builtin; refine wpList_append_own_at _ rfl (.tmp 40) (.tmp 42) 68 rfl w.heap.size 4 i0 (.bool false) 1 1 Tryz.underlying68 hi hz0 hz1 hz2 rfl (by omega) (.slice none 0 0) 0 [] rfl (World.ownsRow_nil _ _ _ _) ⟨g, 0, none⟩ n cv (bls n f) rfl (by simp [bls_len]) hnw.out (bls_one n f) (by unfold maxLen; omega) (by omega) (by omega) ?_; intro v1 w1 hown1 hg1 hnil1 hat1)
        obtain ⟨g1, cv1, rfl, hcv1, hbg1, hgw1, _, _⟩ := own_open hown1 (by omega)
        simp only [List.nil_append, Nat.zero_add] at hown1
        have hfr : Fr [] w2 w1 := Fr.grown hg1
        have A2' := Lib.hid (A2.out.fr hfr (by simp))
        have HF1 := Lib.hid (HF.out.trans0 hfr)
        have HO1 := Lib.hid hown1
        have hneg : g1 ≠ w.heap.size + 1 + 1 := own_ne hown1 A2'.out (by decide) g1 rfl
        clear hown1 hg1 hnil1 hat1 hfr H2 A2 hc2 HF c0 c2 f2 hnw A0
        rw [Nat.zero_add]
        go_loopw [13] (fun i wr => ∃ j : Nat, j ≤ t ∧ i = .int .i64 ((A + j : Nat) : Int) ∧ wr.ownsRow w.heap.size 4 1 (.slice (some ⟨g1, 0, none⟩) n cv1) n (bls n (setP f A j tb)) ∧ Fr [g1] w1 wr) (fun i _ => A + t - (intOf i).toNat)
        case atStart => exact ⟨0, by omega, by simp, by rw [setP_zero]; exact HO1.out, Fr.refl _ _⟩
        case round =>
          obtain ⟨j, hj, rfl, hown, hfj⟩ := hrel
          have HJ := Lib.hid hown
          by_cases hjt : j < t
          · obtain ⟨g2, c2, hv2, _, _, _, hcl2, hfz2⟩ := own_open hown (by omega)
            injection hv2 with hv3 _ hv4
            injection hv3 with hv5
            injection hv5 with hv6
            subst hv6 hv4
            have hcj := (hcl2 (A + j) (by omega)).trans (bls_get n _ (A + j) (by omega))
            have hfzj := hfz2 (A + j)
            clear hown hcl2 hfz2
            go_wp2
            go_roundw
            case rel =>
              refine ⟨j + 1, by omega, by go_num, ?_, hfj.set (.inl (by simp)) _⟩
              have := own_set HJ.out rfl (A + j) (.bool tb)
              rw [bls_set, setP_succ] at this
              exact this
            case measure => simp [intOf]; omega
          · obtain rfl : j = t := by omega
            have A3 := A2'.out.fr hfj (by simp; omega)
            have c3 := A3.cell 0
            have f3 := A3.froz 0
            simp only [List.getElem?_toArray, List.getElem?_cons_zero] at c3
            clear hown
            go_wp2
            have q0 := (A3.set 0 (.slice (some ⟨g1, 0, none⟩) n cv1)).cell 0
            refine bodyPost_ret (v := .tuple #[.agg #[.slice (some ⟨g1, 0, none⟩) n cv1], .bool true]) (by simp [results, Tryz.results140, go_sem, q0]) rfl (r15_yes HO.out ?_ ((HF1.out.trans hfj (by simp; omega)).set (.inr (by show w.heap.size ≤ w.heap.size + 1 + 1; omega)) _))
            exact own_fr HJ.out ((Fr.refl [w.heap.size + 1 + 1] _).set (.inl (by simp)) _) (fun g' hg => by simp [Value.ownBlock] at hg ⊢; omega)
end Go.Proofs.YthjbnbimfpbccaaGreatDoor
/-
  Add and Remove of the reference of layer 15, at every region. Condition: at most 16384 granules.
-/

set_option linter.unusedVariables false
namespace Go.Proofs.YthjbnbimfpbccaaGreatDoor
open Go.ChangeShapes Go.WideShapes Go.ChangeAt Go.RowKit
theorem r15chg_any (w : World) (b : Nat) (v : Value) (n : Nat) (f : Nat → Bool) (h : Bs b w v n f) (hn : n ≤ 16384) (a s : Int) (tb : Bool) (ha : 0 ≤ a) (ha2 : a ≤ 4294967295) (hs : 0 ≤ s) (hs2 : s ≤ 4294967295) :
    Calls Tryz.prog 140 #[.agg #[v], .agg #[.int .u32 a, .int .u32 s], .bool tb] w fun r w' => ∃ v', r = .returned (.tuple #[.agg #[v'], .bool (okC n f a s tb)]) ∧ Bs 0 w' v' n (newC n f a s tb) ∧ Fr [] w w' := by
  rcases okC_cases n a s ha hs with hb | ⟨A, R, rfl, rfl, hR, hAR⟩
  · rw [(okC_no hb).1, (okC_no hb).2]
    exact (r15chg_no w b v n f h hn a s tb ha ha2 hs hs2 hb).mono fun e w' ⟨he, hf⟩ => ⟨v, he, own_base (own_fr0 h hf) (Nat.zero_le _), hf⟩
  · rw [(okC_nat hR hAR).1, (okC_nat hR hAR).2]
    exact (r15chg_yes w b v n f h hn _ _ tb A R rfl rfl hR hAR).mono fun e w' ⟨⟨v', he, ht⟩, hf⟩ => ⟨v', he, own_base ht (Nat.zero_le _), hf⟩
theorem r15add_any (w : World) (b : Nat) (v : Value) (n : Nat) (f : Nat → Bool) (h : Bs b w v n f) (hn : n ≤ 16384) (a s : Int) (ha : 0 ≤ a) (ha2 : a ≤ 4294967295) (hs : 0 ≤ s) (hs2 : s ≤ 4294967295) :
    Calls Tryz.prog 117 #[.agg #[v], .agg #[.int .u32 a, .int .u32 s]] w fun r w' => ∃ v', r = .returned (.tuple #[.agg #[v'], .bool (okC n f a s true)]) ∧ Bs 0 w' v' n (newC n f a s true) ∧ Fr [] w w' := by
  have C := Lib.hid fun (W : World) (hW : Fr [] w W) => r15chg_any W b v n f (own_fr0 h hW) hn a s true ha ha2 hs hs2
  obtain ⟨av, cv, rfl, hcv⟩ := own_slice h
  clear h
  generalize okC n f a s true = ok at *
  generalize newC n f a s true = f' at *
  go_enter Tryz.func117, Tryz.ntmps117
  go_wp2_with (go_at_call 140; refine (C.out _ (by repeat (first | exact Fr.refl _ _ | assumption | refine Fr.trans0 ?_ (by assumption) | refine Fr.drewN ?_ _ | refine Fr.alloc ?_ _ | refine Fr.drew ?_))).mono ?_; rintro e w2 ⟨v', rfl, h2, hf2⟩; obtain ⟨av', cv', rfl, hcv'⟩ := own_slice h2; have a2 := ((At.new ((w.alloc (.cells #[.slice av n cv] 147)).alloc (.cells #[.int .u32 a, .int .u32 s] 45)) 147 #[.slice none 0 0]).fr (S := []) (w' := w2) hf2 (by simp)); simp only [World.size_alloc] at a2; have c2 := a2.cell 0; have f2 := a2.froz 0; simp only [List.getElem?_toArray, List.getElem?_cons_zero] at c2; have H2 := Lib.hid h2; have A2 := Lib.hid a2; clear h2 a2)
  have q0 := (A2.out.set 0 (.slice av' n cv')).cell 0
  refine bodyPost_ret (v := .tuple #[.agg #[.slice av' n cv'], .bool ok]) (by simp [results, Tryz.results117, go_sem, q0]) rfl ⟨_, rfl, ?_, Fr.set (Fr.trans0 (by repeat (first | exact Fr.refl _ _ | assumption | refine Fr.trans0 ?_ (by assumption) | refine Fr.drewN ?_ _ | refine Fr.alloc ?_ _ | refine Fr.drew ?_)) hf2) (.inr (by show w.heap.size ≤ w.heap.size + 1 + 1; omega)) _⟩
  exact own_fr H2.out ((Fr.refl [w.heap.size + 1 + 1] _).set (.inl (by simp)) _) (fun g hg => by simp; exact own_ne H2.out A2.out (by decide) g hg)
end Go.Proofs.YthjbnbimfpbccaaGreatDoor
/-
  What the reference of layer 17 does with one capability. Condition: cursors in their type's range.
-/




set_option linter.unusedVariables false
namespace Go.Proofs.YthjbnbimfpbccaaGreatDoor
open Go.ChangeShapes Go.WideShapes Go.ChangeAt Go.RowKit
theorem r04range_any (w : World) (c : Cp) (hc : c.cur < 4294967296) :
    Calls Tryz.prog 138 #[.agg c.cells] w fun r w' => r = .returned (.tuple #[.int .u32 c.base, .int .u64 c.top]) ∧ Fr [] w w' := by
  unfold Cp.base Cp.top Cp.cells
  have C := Lib.hid fun W => r03dec_any W c.e c.b c.t c.cur hc
  generalize dBase c.e c.b c.t c.cur = X at *
  generalize dTop c.e c.b c.t c.cur = Y at *
  go_enter Tryz.func138, Tryz.ntmps138
  go_wp2_with fail
  refine (C.out _).mono ?_
  rintro e w2 ⟨rfl, rfl⟩
  go_wp2_with fail
  go_ret2
  exact ⟨rfl, (by repeat (first | exact Fr.refl _ _ | assumption | refine Fr.trans0 ?_ (by assumption) | refine Fr.drewN ?_ _ | refine Fr.alloc ?_ _ | refine Fr.drew ?_))⟩
theorem r17stale_any (w : World) (b : Nat) (v : Value) (n : Nat) (f : Nat → Bool) (h : Bs b w v n f) (hn : n ≤ 16384) (c : Cp) (hc : c.cur < 4294967296) :
    Calls Tryz.prog 114 #[.agg c.cells, .agg #[v]] w fun r w' => r = .returned (.bool (stB (hasP n f) c)) ∧ Fr [] w w' := by
  have hbd := dec_bd c.e c.b c.t c.cur
  obtain ⟨av, cv, rfl, hcv⟩ := own_slice h
  have F0 := Lib.hid (show Fr [] w ((w.alloc (.cells c.cells 49)).alloc (.cells #[.slice av n cv] 147)) from (by repeat (first | exact Fr.refl _ _ | assumption | refine Fr.trans0 ?_ (by assumption) | refine Fr.drewN ?_ _ | refine Fr.alloc ?_ _ | refine Fr.drew ?_)))
  have A0 := Lib.hid ((At.new w 49 c.cells).old (.cells #[.slice av n cv] 147))
  have A1 := At.new (w.alloc (.cells c.cells 49)) 147 #[.slice av n cv]
  rw [World.size_alloc] at A1
  have A1 := Lib.hid A1
  have C1 := Lib.hid fun W => r04range_any W c hc
  have C2 := Lib.hid fun (W : World) (hW : Fr [] w W) => r15has_any W b _ n f (own_fr0 h hW) hn c.base hbd.1 (by have := hbd.2.1; unfold Cp.base; omega)
  unfold stB
  generalize c.base = X at *
  generalize c.top = Y at *
  generalize hasP n f X = bb at *
  obtain ⟨cur, e, cb, ct, pm, ty, rs, v⟩ := c
  unfold Cp.cells at *
  dsimp only at *
  clear hbd h
  cases v
  all_goals
    go_enter Tryz.func114, Tryz.ntmps114
    go_wp2_with fail
    refine (C1.out _).mono ?_
    rintro e w2 ⟨rfl, hf2⟩
    have c7 := (A0.out.fr hf2 (by simp)).cell 7
    have c0 := (A1.out.fr hf2 (by simp)).cell 0
    simp only [List.getElem?_toArray, List.getElem?_cons_zero, List.getElem?_cons_succ] at c7 c0
    have F2 := Lib.hid (F0.out.trans0 hf2)
    clear hf2
    go_wp2_with fail
    first
      | (go_ret; exact ⟨rfl, F2.out⟩)
      | (refine (C2.out _ F2.out).mono ?_
         rintro e w3 ⟨rfl, hf3⟩
         go_wp2_with fail
         go_ret
         exact ⟨rfl, F2.out.trans0 hf3⟩)
end Go.Proofs.YthjbnbimfpbccaaGreatDoor
