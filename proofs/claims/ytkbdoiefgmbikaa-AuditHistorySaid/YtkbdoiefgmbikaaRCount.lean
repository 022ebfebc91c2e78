/-
  The reference's count: what an event without a fault does to the state. Condition: lists of a thousand at most.
-/



import Derived.Test.YtkbdoiefgmbikaaRWithout
import Derived.Test.YtkbdoiefgmbikaaRFind
import Derived.Deep.CutBlock
import Derived.Deep.DeepCutAuto
import Derived.BigRegion
set_option linter.unusedVariables false
namespace Go.Proofs.Ytkbdoiefgmbikaa
open Go.ChangeShapes Go.WideShapes Go.ChangeAt Go.RowKit
theorem infoRG : (Try.prog.info? 103).map (fun i => (i.zero, i.size, i.bytes)) = some (some (.agg #[.int .u64 0, .int .u32 0, .int .u32 0, .int .i64 0, .int .i64 0]), 5, 32) := by kernel_rfl
theorem wp_append_at {P : Program} {o : Oper} {a : Act} {K : Act → World → Prop} {Q : Exit → Act → World → Prop} {w : World} (s x : Operand) (t : TypeId)
    (ho : o.op = .call { callee := .builtin .append, args := #[s, x], argTypes := #[t, t] })
    (base : Nat) (e : TypeId) (i : TypeInfo) (z : Value) (size bytes : Nat) (ht : P.underlying t = some (.slice e)) (hi : P.info? e = some i) (hz : i.zero = some z)
    (hsize : i.size = size) (hby : i.bytes = bytes) (hzs : z.cells.size = size) (hsz : 0 < size)
    (v : Value) (n : Nat) (xs : List Value) (hs : a.eval s = v) (hown : w.ownsRow base e size v n xs)
    (ad : Addr) (m c : Nat) (news : List Value) (hx : a.eval x = .slice (some ad) m c) (hl : news.length = m * size) (hnews : ∀ j u, news[j]? = some u → w.cell? (ad.add j) = some u) (h1 : ∀ u ∈ news, u.oneCell' = true)
    (h63 : n + m ≤ maxLen) (hbytes : (n + m) * bytes ≤ 140737488355328) (hbase : base ≤ w.heap.size)
    (h : ∀ v' w', w'.ownsRow base e size v' (n + m) (xs ++ news) → w.grownBy w' v.ownBlock → (v' = .slice none 0 0 ↔ v = .slice none 0 0 ∧ m = 0) → (v'.ownBlock = v.ownBlock ∨ v'.ownBlock = some w.heap.size) → K (a.put o.dst v') w') :
    o.wp P a w K Q := by
  obtain ⟨v', w', hr, h2, h3, h4, h5⟩ := run_append_own_at (P := P) w base t o.type e i z size bytes ht hi hz hsize hby hzs hsz v n xs hown ad m c news hl hnews h1 h63 hbytes hbase
  unfold Oper.wp execOp
  simp only [ho, resolve, invoke, builtin, Sem.run_bind, Sem.run_pure, Result.andThen_ok, List.map_toArray, List.map_cons, List.map_nil, hs, hx, hr]
  exact h v' w' h2 h3 h4 h5
set_option maxHeartbeats 4000000 in
set_option maxRecDepth 100000 in
theorem rcount_B (w : World) (B p : Nat) (y : Rx) (gv ev av tv : Value) (hh : Rst w B p y gv ev av tv) (e : Ev) (i : Nat) (hk : e.kind = 6) (hn : y.gs.length ≤ 1000) (hkn : y.ks.length ≤ 1000) (hen : y.en.length ≤ 1000) :
    Calls Try.prog 41 #[.pointer (some ⟨p, 0, none⟩), .agg (evl e).toArray, .int .i64 i] w fun r w' => (∃ v, r = .returned v) ∧ (∃ gv' ev' av' tv', Rst w' B p { y with sw := true, la := e.num, be := i } gv' ev' av' tv') ∧ Fr (sB p gv ev av tv) w w' := by
  obtain ⟨ek, eh, ev', en, ea, es⟩ := e
  dsimp only at hk
  (try subst hk)
  obtain ⟨ga, gc, rfl, _⟩ := own_slice hh.g
  obtain ⟨xa, xc, rfl, _⟩ := own_slice hh.e
  obtain ⟨aa, ac, rfl, _⟩ := own_slice hh.a
  obtain ⟨ta, tc, rfl, _⟩ := own_slice hh.t
  have E0 := At.new w 41 (evl ⟨6, eh, ev', en, ea, es⟩).toArray
  have F0 := (show Fr [] w (w.alloc (.cells (evl ⟨6, eh, ev', en, ea, es⟩).toArray 41)) from (by repeat (first | exact Fr.refl _ _ | assumption | refine Fr.trans0 ?_ (by assumption) | refine Fr.drewN ?_ _ | refine Fr.alloc ?_ _ | refine Fr.drew ?_)))
  have HH := hh.fr0 F0
  have hpq : p < w.heap.size := hh.at_.lt
  have HIR := Lib.hid (show (Try.prog.info? 27).map (·.size) = some 2 by kernel_rfl)
  have HB0 := Lib.hid hh.lo
  have HAV := Lib.hid (show ∀ g, (Value.slice aa y.ks.length ac).ownBlock = some g → g < w.heap.size from fun g hg => (hh.a.lt g hg).2)
  clear hh
  obtain ⟨w1, hw1⟩ : ∃ W, w.alloc (.cells (evl ⟨6, eh, ev', en, ea, es⟩).toArray 41) = W := ⟨_, rfl⟩
  rw [hw1] at E0 F0 HH
  unfold evl at E0
  dsimp only at E0
  have hs1 : w1.heap.size = w.heap.size + 1 := by rw [← hw1]; simp
  obtain ⟨q, hq⟩ : ∃ q, w.heap.size = q := ⟨_, rfl⟩
  rw [hq] at E0 hpq hs1 HAV
  have hne : ¬ p = q := by omega
  have hne2 : ¬ q = p := by omega
  have HP := Lib.hid HH.at_
  have HH := Lib.hid HH
  have F0 := Lib.hid F0
  have z0 := E0.cell 0
  have z1 := E0.cell 1
  have z3 := E0.cell 3
  have p0 := HP.out.cell 0
  have p1 := HP.out.cell 1
  have p2 := HP.out.cell 2
  have p3 := HP.out.cell 3
  have p4 := HP.out.cell 4
  have f0 := HP.out.froz 0
  have f1 := HP.out.froz 1
  have f2 := HP.out.froz 2
  have f3 := HP.out.froz 3
  have f4 := HP.out.froz 4
  have hpl := HP.out.lt
  simp only [List.getElem?_toArray, List.getElem?_cons_zero, List.getElem?_cons_succ] at z0 z1 z3 p0 p1 p2 p3 p4
  have E0 := Lib.hid E0
  go_enter Try.func41, Try.ntmps41
  go_upto_region 1 with (fail)
  clear hw1
  (try rw [hq])
  clear hq
  go_wp2_with fail
  go_end0
  have a1 := HH.out.setP 1 (.bool true) (y' := { y with sw := true }) rfl rfl rfl rfl
  have a2 := a1.1.setP 2 (.int .u64 en) (y' := { y with sw := true, la := en }) rfl rfl rfl rfl
  have a3 := a2.1.setP 3 (.int .i64 i) (y' := { y with sw := true, la := en, be := i }) rfl rfl rfl rfl
  exact ⟨⟨_, rfl⟩, ⟨_, _, _, _, a3.1⟩, ((F0.out.wid.trans a1.2 (fun _ h => .inl h)).trans a2.2 (fun _ h => .inl h)).trans a3.2 (fun _ h => .inl h)⟩
set_option maxHeartbeats 4000000 in
set_option maxRecDepth 100000 in
theorem rcount_E (w : World) (B p : Nat) (y : Rx) (gv ev av tv : Value) (hh : Rst w B p y gv ev av tv) (e : Ev) (i : Nat) (hk : e.kind = 7) (hn : y.gs.length ≤ 1000) (hkn : y.ks.length ≤ 1000) (hen : y.en.length ≤ 1000) :
    Calls Try.prog 41 #[.pointer (some ⟨p, 0, none⟩), .agg (evl e).toArray, .int .i64 i] w fun r w' => (∃ v, r = .returned v) ∧ (∃ gv' ev' av' tv', Rst w' B p { y with sw := false, en := y.en ++ [i] } gv' ev' av' tv') ∧ Fr (sB p gv ev av tv) w w' := by
  obtain ⟨j0, hj, hy0, hy1, hy2⟩ := info_parts infoIntZ
  obtain ⟨ek, eh, ev', en, ea, es⟩ := e
  dsimp only at hk
  (try subst hk)
  obtain ⟨ga, gc, rfl, _⟩ := own_slice hh.g
  obtain ⟨xa, xc, rfl, _⟩ := own_slice hh.e
  obtain ⟨aa, ac, rfl, _⟩ := own_slice hh.a
  obtain ⟨ta, tc, rfl, _⟩ := own_slice hh.t
  have E0 := At.new w 41 (evl ⟨7, eh, ev', en, ea, es⟩).toArray
  have F0 := (show Fr [] w (w.alloc (.cells (evl ⟨7, eh, ev', en, ea, es⟩).toArray 41)) from (by repeat (first | exact Fr.refl _ _ | assumption | refine Fr.trans0 ?_ (by assumption) | refine Fr.drewN ?_ _ | refine Fr.alloc ?_ _ | refine Fr.drew ?_)))
  have HH := hh.fr0 F0
  have hpq : p < w.heap.size := hh.at_.lt
  have HIR := Lib.hid (show (Try.prog.info? 27).map (·.size) = some 2 by kernel_rfl)
  have HB0 := Lib.hid hh.lo
  have HAV := Lib.hid (show ∀ g, (Value.slice aa y.ks.length ac).ownBlock = some g → g < w.heap.size from fun g hg => (hh.a.lt g hg).2)
  clear hh
  obtain ⟨w1, hw1⟩ : ∃ W, w.alloc (.cells (evl ⟨7, eh, ev', en, ea, es⟩).toArray 41) = W := ⟨_, rfl⟩
  rw [hw1] at E0 F0 HH
  unfold evl at E0
  dsimp only at E0
  have hs1 : w1.heap.size = w.heap.size + 1 := by rw [← hw1]; simp
  obtain ⟨q, hq⟩ : ∃ q, w.heap.size = q := ⟨_, rfl⟩
  rw [hq] at E0 hpq hs1 HAV
  have hne : ¬ p = q := by omega
  have hne2 : ¬ q = p := by omega
  have HP := Lib.hid HH.at_
  have HH := Lib.hid HH
  have F0 := Lib.hid F0
  have z0 := E0.cell 0
  have z1 := E0.cell 1
  have z3 := E0.cell 3
  have p0 := HP.out.cell 0
  have p1 := HP.out.cell 1
  have p2 := HP.out.cell 2
  have p3 := HP.out.cell 3
  have p4 := HP.out.cell 4
  have f0 := HP.out.froz 0
  have f1 := HP.out.froz 1
  have f2 := HP.out.froz 2
  have f3 := HP.out.froz 3
  have f4 := HP.out.froz 4
  have hpl := HP.out.lt
  simp only [List.getElem?_toArray, List.getElem?_cons_zero, List.getElem?_cons_succ] at z0 z1 z3 p0 p1 p2 p3 p4
  have E0 := Lib.hid E0
  go_enter Try.func41, Try.ntmps41
  go_upto_region 1 with (fail)
  clear hw1
  (try rw [hq])
  clear hq
  go_upto_region 17 with (fail)
  have a1 := HH.out.setP 1 (.bool false) (y' := { y with sw := false }) rfl rfl rfl rfl
  obtain ⟨W, hW⟩ : ∃ W, w1.setCell ⟨p, 1, none⟩ (.bool false) = W := ⟨_, rfl⟩
  rw [hW] at a1 ⊢
  have hsW : q + 1 ≤ W.heap.size := by rw [← hW]; simp; omega
  have H2 := Lib.hid a1.1
  have F2 := Lib.hid ((F0.out.wid).trans a1.2 (fun _ h => .inl h))
  have g4 := a1.1.at_.cell 4
  simp only [List.getElem?_toArray, List.getElem?_cons_zero, List.getElem?_cons_succ] at g4
  have hfa : Fr [] W (W.alloc (.cells #[.int .i64 i] 3)) := (Fr.refl _ _).alloc _
  have HFA := Lib.hid hfa
  have EA := Lib.hid (own_fr0 a1.1.e hfa)
  have PA := Lib.hid (a1.1.at_.fr hfa (by simp))
  have HBW : B ≤ W.heap.size := a1.1.lo
  clear hs1 hW a1 hfa z0 z1 z3 p0 p1 p2 p3 p4 f0 f1 f2 f3 f4
  go_wp2_with (at_builtin; refine wpList_append_own_at _ rfl (.tmp 81) (.tmp 83) 31 rfl B 3 j0 (.int .i64 0) 1 8 Try.underlying31 hj hy0 hy1 hy2 rfl (by omega) (.slice xa y.en.length xc) y.en.length (nts y.en) rfl EA.out ⟨W.heap.size, 0, none⟩ 1 1 [.int .i64 i] rfl rfl (cell_one_new _ _ _) (by simp [Value.oneCell']) (by unfold maxLen; omega) (by omega) (by simp; omega) ?_; intro v1 w7 hown7 hg7 hnil7 hat7; obtain ⟨va, vc, rfl, hvc⟩ := own_slice hown7; have P7 := PA.out.fr (Fr.grown hg7) (own_toList EA.out PA.out (by decide)); have q4 := P7.cell 4; have q4z := P7.froz 4; have hp7 := P7.lt; simp only [List.getElem?_toArray, List.getElem?_cons_zero, List.getElem?_cons_succ] at q4)
  go_end0
  have a2 := H2.out.addE HFA.out hg7 hown7 hat7
  exact ⟨⟨_, rfl⟩, ⟨_, _, _, _, a2.1⟩, F2.out.trans a2.2 (fun _ h => .inl h)⟩
--- a grant's cells: of place k (g), in the list's own block
theorem wI_some' (k : Nat) : wI (some k) = (k : Int) := rfl
set_option maxHeartbeats 4000000 in
set_option maxRecDepth 100000 in
theorem rcount_L (w : World) (B p : Nat) (y : Rx) (gv ev av tv : Value) (hh : Rst w B p y gv ev av tv) (e : Ev) (i : Nat) (hk : e.kind = 4) (hn : y.gs.length ≤ 1000) (hkn : y.ks.length ≤ 1000) (hen : y.en.length ≤ 1000)(hf : findR y.gs e ≠ none) :
    Calls Try.prog 41 #[.pointer (some ⟨p, 0, none⟩), .agg (evl e).toArray, .int .i64 i] w fun r w' => (∃ v, r = .returned v) ∧ (∃ gv' ev' av' tv', Rst w' B p (match findR y.gs e with | some k => { y with gs := setSt y.gs k 3 (frOf y.gs k) } | none => y) gv' ev' av' tv') ∧ Fr (sB p gv ev av tv) w w' := by
  obtain ⟨ek, eh, ev', en, ea, es⟩ := e
  dsimp only at hk
  (try subst hk)
  obtain ⟨ga, gc, rfl, _⟩ := own_slice hh.g
  obtain ⟨xa, xc, rfl, _⟩ := own_slice hh.e
  obtain ⟨aa, ac, rfl, _⟩ := own_slice hh.a
  obtain ⟨ta, tc, rfl, _⟩ := own_slice hh.t
  have E0 := At.new w 41 (evl ⟨4, eh, ev', en, ea, es⟩).toArray
  have F0 := (show Fr [] w (w.alloc (.cells (evl ⟨4, eh, ev', en, ea, es⟩).toArray 41)) from (by repeat (first | exact Fr.refl _ _ | assumption | refine Fr.trans0 ?_ (by assumption) | refine Fr.drewN ?_ _ | refine Fr.alloc ?_ _ | refine Fr.drew ?_)))
  have HH := hh.fr0 F0
  have hpq : p < w.heap.size := hh.at_.lt
  have HIR := Lib.hid (show (Try.prog.info? 27).map (·.size) = some 2 by kernel_rfl)
  have HB0 := Lib.hid hh.lo
  have HAV := Lib.hid (show ∀ g, (Value.slice aa y.ks.length ac).ownBlock = some g → g < w.heap.size from fun g hg => (hh.a.lt g hg).2)
  clear hh
  obtain ⟨w1, hw1⟩ : ∃ W, w.alloc (.cells (evl ⟨4, eh, ev', en, ea, es⟩).toArray 41) = W := ⟨_, rfl⟩
  rw [hw1] at E0 F0 HH
  unfold evl at E0
  dsimp only at E0
  have hs1 : w1.heap.size = w.heap.size + 1 := by rw [← hw1]; simp
  obtain ⟨q, hq⟩ : ∃ q, w.heap.size = q := ⟨_, rfl⟩
  rw [hq] at E0 hpq hs1 HAV
  have hne : ¬ p = q := by omega
  have hne2 : ¬ q = p := by omega
  have HP := Lib.hid HH.at_
  have HH := Lib.hid HH
  have F0 := Lib.hid F0
  have z0 := E0.cell 0
  have z1 := E0.cell 1
  have z3 := E0.cell 3
  have p0 := HP.out.cell 0
  have p1 := HP.out.cell 1
  have p2 := HP.out.cell 2
  have p3 := HP.out.cell 3
  have p4 := HP.out.cell 4
  have f0 := HP.out.froz 0
  have f1 := HP.out.froz 1
  have f2 := HP.out.froz 2
  have f3 := HP.out.froz 3
  have f4 := HP.out.froz 4
  have hpl := HP.out.lt
  simp only [List.getElem?_toArray, List.getElem?_cons_zero, List.getElem?_cons_succ] at z0 z1 z3 p0 p1 p2 p3 p4
  have E0 := Lib.hid E0
  cases hfr : findR y.gs ⟨4, eh, ev', en, ea, es⟩ with
  | none => exact absurd hfr hf
  | some k =>
    clear hf
    obtain ⟨g, hgk, hgs⟩ := findR_some hfr
    have hkl := (List.getElem?_eq_some_iff.1 hgk).1
    obtain ⟨gb, rfl⟩ : ∃ gb, ga = some ⟨gb, 0, none⟩ := by
      rcases HH.out.g.2 with ⟨h0, h1⟩ | ⟨g', cap, cur, h0, _⟩
      · omega
      · injection h0 with h0 _ _; exact ⟨g', h0⟩
    have CF := Lib.hid (rfind_any w1 B p y _ _ _ _ HH.out ⟨4, eh, ev', en, ea, es⟩ hn)
    rw [hfr] at CF
    have hkI : (k : Int) < (y.gs.length : Int) := by omega
    have hk0 : ¬ (k : Int) < 0 := by omega
    have hgp : gb ≠ p := own_ne HH.out.g HH.out.at_ (by decide) gb rfl
    have hgp1 : ¬ gb = p := hgp
    have hgp2 : ¬ p = gb := fun h => hgp h.symm
    have HGK := Lib.hid hgk
    have HFR := Lib.hid hfr
    have hw : ∃ cur, At w1 gb 103 cur ∧ cur[k * 5 + 3]? = some (.int .i64 g.st) ∧ cur[k * 5 + 4]? = some (.int .i64 g.fr) := by
      rcases HH.out.g.2 with ⟨h0, h1⟩ | ⟨g', cap, cur, h0, _, h1, h2, h3, h4, h5⟩
      · omega
      · injection h0 with h0 _ _
        injection h0 with h0
        injection h0 with h0
        subst h0
        have e : ∀ j < 5, cur[k * 5 + j]? = g.l[j]? := fun j hj => by
          rw [← fm_get RG.l 5 (fun _ => rfl) y.gs k g j hgk hj]
          have : (cur.toList.take (y.gs.length * 5))[k * 5 + j]? = (rgC y.gs)[k * 5 + j]? := by rw [h5]
          rw [List.getElem?_take, if_pos (by omega), Array.getElem?_toList] at this
          exact this
        exact ⟨cur, h1, e 3 (by omega), e 4 (by omega)⟩
    obtain ⟨cur, hcur, hc3, hc4⟩ := hw
    have HCU := Lib.hid hcur
    have HC3 := Lib.hid hc3
    have HC4 := Lib.hid hc4
    clear hgk hfr hcur hc3 hc4 hgp hgs
    go_enter Try.func41, Try.ntmps41
    go_upto_region 1 with (fail)
    clear hw1
    (try rw [hq])
    clear hq
    go_wp2_with (refine wpList_load_at rfl 41 (.tmp 4) rfl ⟨q, 0, none⟩ rfl [.int .i64 4, .int .i64 eh, .int .u32 ev', .int .u64 en, .int .u32 ea, .int .u32 es] _ (E0.out.all _ rfl) Try.underlying41 rfl infoEv ?_)
    refine (CF.out).mono ?_
    rintro e1 w2 ⟨rfl, hf2⟩
    rw [wI_some']
    have H2 := Lib.hid (HH.out.fr0 hf2)
    have F2 := Lib.hid (F0.out.trans0 hf2)
    have d0 := H2.out.at_.cell 0
    have G2 := HCU.out.fr hf2 (by simp)
    have d3 := (G2.cell (k * 5 + 3)).trans HC3.out
    have d4 := (G2.cell (k * 5 + 4)).trans HC4.out
    have e3 := G2.froz (k * 5 + 3)
    have e4 := G2.froz (k * 5 + 4)
    have hgl := G2.lt
    simp only [List.getElem?_toArray, List.getElem?_cons_zero, List.getElem?_cons_succ] at d0
    clear hf2 z0 z1 z3 p0 p1 p2 p3 p4 f0 f1 f2 f3 f4 G2
    go_wp2_with fail
    go_end0
    have hk2 := HGK.out
    have a1 := H2.out.setG (g' := { g with st := 3, fr := g.fr }) rfl (.int .i64 (3 : Nat)) hk2 (j := 3) (by omega) rfl
    simp only [setSt_eq hk2, frOf_eq hk2]
    exact ⟨⟨_, rfl⟩, ⟨_, _, _, _, a1.1⟩, (F2.out.wid).trans a1.2 (fun _ h => .inl h)⟩
set_option maxHeartbeats 4000000 in
set_option maxRecDepth 100000 in
theorem rcount_F (w : World) (B p : Nat) (y : Rx) (gv ev av tv : Value) (hh : Rst w B p y gv ev av tv) (e : Ev) (i : Nat) (hk : e.kind = 3) (hn : y.gs.length ≤ 1000) (hkn : y.ks.length ≤ 1000) (hen : y.en.length ≤ 1000)(hf : findR y.gs e ≠ none) :
    Calls Try.prog 41 #[.pointer (some ⟨p, 0, none⟩), .agg (evl e).toArray, .int .i64 i] w fun r w' => (∃ v, r = .returned v) ∧ (∃ gv' ev' av' tv', Rst w' B p (match findR y.gs e with | some k => { y with gs := setSt y.gs k 2 i } | none => y) gv' ev' av' tv') ∧ Fr (sB p gv ev av tv) w w' := by
  obtain ⟨ek, eh, ev', en, ea, es⟩ := e
  dsimp only at hk
  (try subst hk)
  obtain ⟨ga, gc, rfl, _⟩ := own_slice hh.g
  obtain ⟨xa, xc, rfl, _⟩ := own_slice hh.e
  obtain ⟨aa, ac, rfl, _⟩ := own_slice hh.a
  obtain ⟨ta, tc, rfl, _⟩ := own_slice hh.t
  have E0 := At.new w 41 (evl ⟨3, eh, ev', en, ea, es⟩).toArray
  have F0 := (show Fr [] w (w.alloc (.cells (evl ⟨3, eh, ev', en, ea, es⟩).toArray 41)) from (by repeat (first | exact Fr.refl _ _ | assumption | refine Fr.trans0 ?_ (by assumption) | refine Fr.drewN ?_ _ | refine Fr.alloc ?_ _ | refine Fr.drew ?_)))
  have HH := hh.fr0 F0
  have hpq : p < w.heap.size := hh.at_.lt
  have HIR := Lib.hid (show (Try.prog.info? 27).map (·.size) = some 2 by kernel_rfl)
  have HB0 := Lib.hid hh.lo
  have HAV := Lib.hid (show ∀ g, (Value.slice aa y.ks.length ac).ownBlock = some g → g < w.heap.size from fun g hg => (hh.a.lt g hg).2)
  clear hh
  obtain ⟨w1, hw1⟩ : ∃ W, w.alloc (.cells (evl ⟨3, eh, ev', en, ea, es⟩).toArray 41) = W := ⟨_, rfl⟩
  rw [hw1] at E0 F0 HH
  unfold evl at E0
  dsimp only at E0
  have hs1 : w1.heap.size = w.heap.size + 1 := by rw [← hw1]; simp
  obtain ⟨q, hq⟩ : ∃ q, w.heap.size = q := ⟨_, rfl⟩
  rw [hq] at E0 hpq hs1 HAV
  have hne : ¬ p = q := by omega
  have hne2 : ¬ q = p := by omega
  have HP := Lib.hid HH.at_
  have HH := Lib.hid HH
  have F0 := Lib.hid F0
  have z0 := E0.cell 0
  have z1 := E0.cell 1
  have z3 := E0.cell 3
  have p0 := HP.out.cell 0
  have p1 := HP.out.cell 1
  have p2 := HP.out.cell 2
  have p3 := HP.out.cell 3
  have p4 := HP.out.cell 4
  have f0 := HP.out.froz 0
  have f1 := HP.out.froz 1
  have f2 := HP.out.froz 2
  have f3 := HP.out.froz 3
  have f4 := HP.out.froz 4
  have hpl := HP.out.lt
  simp only [List.getElem?_toArray, List.getElem?_cons_zero, List.getElem?_cons_succ] at z0 z1 z3 p0 p1 p2 p3 p4
  have E0 := Lib.hid E0
  cases hfr : findR y.gs ⟨3, eh, ev', en, ea, es⟩ with
  | none => exact absurd hfr hf
  | some k =>
    clear hf
    obtain ⟨g, hgk, hgs⟩ := findR_some hfr
    have hkl := (List.getElem?_eq_some_iff.1 hgk).1
    obtain ⟨gb, rfl⟩ : ∃ gb, ga = some ⟨gb, 0, none⟩ := by
      rcases HH.out.g.2 with ⟨h0, h1⟩ | ⟨g', cap, cur, h0, _⟩
      · omega
      · injection h0 with h0 _ _; exact ⟨g', h0⟩
    have CF := Lib.hid (rfind_any w1 B p y _ _ _ _ HH.out ⟨3, eh, ev', en, ea, es⟩ hn)
    rw [hfr] at CF
    have hkI : (k : Int) < (y.gs.length : Int) := by omega
    have hk0 : ¬ (k : Int) < 0 := by omega
    have hgp : gb ≠ p := own_ne HH.out.g HH.out.at_ (by decide) gb rfl
    have hgp1 : ¬ gb = p := hgp
    have hgp2 : ¬ p = gb := fun h => hgp h.symm
    have HGK := Lib.hid hgk
    have HFR := Lib.hid hfr
    have hw : ∃ cur, At w1 gb 103 cur ∧ cur[k * 5 + 3]? = some (.int .i64 g.st) ∧ cur[k * 5 + 4]? = some (.int .i64 g.fr) := by
      rcases HH.out.g.2 with ⟨h0, h1⟩ | ⟨g', cap, cur, h0, _, h1, h2, h3, h4, h5⟩
      · omega
      · injection h0 with h0 _ _
        injection h0 with h0
        injection h0 with h0
        subst h0
        have e : ∀ j < 5, cur[k * 5 + j]? = g.l[j]? := fun j hj => by
          rw [← fm_get RG.l 5 (fun _ => rfl) y.gs k g j hgk hj]
          have : (cur.toList.take (y.gs.length * 5))[k * 5 + j]? = (rgC y.gs)[k * 5 + j]? := by rw [h5]
          rw [List.getElem?_take, if_pos (by omega), Array.getElem?_toList] at this
          exact this
        exact ⟨cur, h1, e 3 (by omega), e 4 (by omega)⟩
    obtain ⟨cur, hcur, hc3, hc4⟩ := hw
    have HCU := Lib.hid hcur
    have HC3 := Lib.hid hc3
    have HC4 := Lib.hid hc4
    clear hgk hfr hcur hc3 hc4 hgp hgs
    go_enter Try.func41, Try.ntmps41
    go_upto_region 1 with (fail)
    clear hw1
    (try rw [hq])
    clear hq
    go_wp2_with (refine wpList_load_at rfl 41 (.tmp 4) rfl ⟨q, 0, none⟩ rfl [.int .i64 3, .int .i64 eh, .int .u32 ev', .int .u64 en, .int .u32 ea, .int .u32 es] _ (E0.out.all _ rfl) Try.underlying41 rfl infoEv ?_)
    refine (CF.out).mono ?_
    rintro e1 w2 ⟨rfl, hf2⟩
    rw [wI_some']
    have H2 := Lib.hid (HH.out.fr0 hf2)
    have F2 := Lib.hid (F0.out.trans0 hf2)
    have d0 := H2.out.at_.cell 0
    have G2 := HCU.out.fr hf2 (by simp)
    have d3 := (G2.cell (k * 5 + 3)).trans HC3.out
    have d4 := (G2.cell (k * 5 + 4)).trans HC4.out
    have e3 := G2.froz (k * 5 + 3)
    have e4 := G2.froz (k * 5 + 4)
    have hgl := G2.lt
    simp only [List.getElem?_toArray, List.getElem?_cons_zero, List.getElem?_cons_succ] at d0
    clear hf2 z0 z1 z3 p0 p1 p2 p3 p4 f0 f1 f2 f3 f4 G2
    go_wp2_with fail
    go_end0
    have hk2 := HGK.out
    have hkl2 := (List.getElem?_eq_some_iff.1 hk2).1
    have a1 := H2.out.setG (g' := { g with st := 2 }) rfl (.int .i64 (2 : Nat)) hk2 (j := 3) (by omega) rfl
    have a2 := a1.1.setG (g := { g with st := 2 }) (g' := { g with st := 2, fr := i }) (by rw [List.length_set]) (.int .i64 (i : Nat)) (by rw [List.getElem?_set_self hkl2]) (j := 4) (by omega) rfl
    simp only [setSt_eq hk2]
    rw [List.set_set] at a2
    exact ⟨⟨_, rfl⟩, ⟨_, _, _, _, a2.1⟩, ((F2.out.wid).trans a1.2 (fun _ h => .inl h)).trans a2.2 (fun _ h => .inl h)⟩
set_option maxHeartbeats 4000000 in
set_option maxRecDepth 100000 in
theorem rcount_D (w : World) (B p : Nat) (y : Rx) (gv ev av tv : Value) (hh : Rst w B p y gv ev av tv) (e : Ev) (i : Nat) (hk : e.kind = 10) (hn : y.gs.length ≤ 1000) (hkn : y.ks.length ≤ 1000) (hen : y.en.length ≤ 1000)(hf : waitR y.ks e.hart ≠ none) :
    Calls Try.prog 41 #[.pointer (some ⟨p, 0, none⟩), .agg (evl e).toArray, .int .i64 i] w fun r w' => (∃ v, r = .returned v) ∧ (∃ gv' ev' av' tv', Rst w' B p (match waitR y.ks e.hart with | some k => { y with ks := y.ks.eraseIdx k } | none => y) gv' ev' av' tv') ∧ Fr (sB p gv ev av tv) w w' := by
  obtain ⟨ek, eh, ev', en, ea, es⟩ := e
  dsimp only at hk
  (try subst hk)
  obtain ⟨ga, gc, rfl, _⟩ := own_slice hh.g
  obtain ⟨xa, xc, rfl, _⟩ := own_slice hh.e
  obtain ⟨aa, ac, rfl, _⟩ := own_slice hh.a
  obtain ⟨ta, tc, rfl, _⟩ := own_slice hh.t
  have E0 := At.new w 41 (evl ⟨10, eh, ev', en, ea, es⟩).toArray
  have F0 := (show Fr [] w (w.alloc (.cells (evl ⟨10, eh, ev', en, ea, es⟩).toArray 41)) from (by repeat (first | exact Fr.refl _ _ | assumption | refine Fr.trans0 ?_ (by assumption) | refine Fr.drewN ?_ _ | refine Fr.alloc ?_ _ | refine Fr.drew ?_)))
  have HH := hh.fr0 F0
  have hpq : p < w.heap.size := hh.at_.lt
  have HIR := Lib.hid (show (Try.prog.info? 27).map (·.size) = some 2 by kernel_rfl)
  have HB0 := Lib.hid hh.lo
  have HAV := Lib.hid (show ∀ g, (Value.slice aa y.ks.length ac).ownBlock = some g → g < w.heap.size from fun g hg => (hh.a.lt g hg).2)
  clear hh
  obtain ⟨w1, hw1⟩ : ∃ W, w.alloc (.cells (evl ⟨10, eh, ev', en, ea, es⟩).toArray 41) = W := ⟨_, rfl⟩
  rw [hw1] at E0 F0 HH
  unfold evl at E0
  dsimp only at E0
  have hs1 : w1.heap.size = w.heap.size + 1 := by rw [← hw1]; simp
  obtain ⟨q, hq⟩ : ∃ q, w.heap.size = q := ⟨_, rfl⟩
  rw [hq] at E0 hpq hs1 HAV
  have hne : ¬ p = q := by omega
  have hne2 : ¬ q = p := by omega
  have HP := Lib.hid HH.at_
  have HH := Lib.hid HH
  have F0 := Lib.hid F0
  have z0 := E0.cell 0
  have z1 := E0.cell 1
  have z3 := E0.cell 3
  have p0 := HP.out.cell 0
  have p1 := HP.out.cell 1
  have p2 := HP.out.cell 2
  have p3 := HP.out.cell 3
  have p4 := HP.out.cell 4
  have f0 := HP.out.froz 0
  have f1 := HP.out.froz 1
  have f2 := HP.out.froz 2
  have f3 := HP.out.froz 3
  have f4 := HP.out.froz 4
  have hpl := HP.out.lt
  simp only [List.getElem?_toArray, List.getElem?_cons_zero, List.getElem?_cons_succ] at z0 z1 z3 p0 p1 p2 p3 p4
  have E0 := Lib.hid E0
  dsimp only at hf ⊢
  cases hfr : waitR y.ks eh with
  | none => exact absurd hfr hf
  | some k =>
    clear hf
    obtain ⟨g, hgk, _⟩ := waitR_some hfr
    have hkl := (List.getElem?_eq_some_iff.1 hgk).1
    have CF := Lib.hid (rwaits_any w1 B p y _ _ _ _ HH.out eh hkn)
    rw [hfr, wI_some'] at CF
    have CW := Lib.hid (fun W (hW : Fr [] w1 W) => rwithout_any W B p y _ _ _ _ (HH.out.fr0 hW) k hkl hkn)
    have HFR := Lib.hid hfr
    clear hfr hgk
    go_enter Try.func41, Try.ntmps41
    go_upto_region 1 with (fail)
    clear hw1
    (try rw [hq])
    clear hq
    go_wp2_with fail
    refine (CF.out).mono ?_
    rintro e1 w2 ⟨rfl, hf2⟩
    go_wp2_with fail
    refine (CW.out _ hf2).mono ?_
    rintro e1 w3 ⟨⟨v3, rfl⟩, hrs, hf3⟩
    have F3 := Lib.hid (((F0.out.trans0 hf2).wid).trans hf3 (fun _ h => .inl h))
    have HR := Lib.hid hrs
    clear hf2 hf3 hrs
    go_wp2_with fail
    go_end0
    exact ⟨⟨_, rfl⟩, HR.out, F3.out⟩
set_option maxHeartbeats 4000000 in
set_option maxRecDepth 100000 in
theorem rcount_O (w : World) (B p : Nat) (y : Rx) (gv ev av tv : Value) (hh : Rst w B p y gv ev av tv) (e : Ev) (i : Nat) (hk : ¬ e.kind = 2 ∧ ¬ e.kind = 3 ∧ ¬ e.kind = 6 ∧ ¬ e.kind = 4 ∧ ¬ e.kind = 7 ∧ ¬ e.kind = 11 ∧ ¬ e.kind = 10) :
    Calls Try.prog 41 #[.pointer (some ⟨p, 0, none⟩), .agg (evl e).toArray, .int .i64 i] w fun r w' => (∃ v, r = .returned v) ∧ (∃ gv' ev' av' tv', Rst w' B p y gv' ev' av' tv') ∧ Fr (sB p gv ev av tv) w w' := by
  obtain ⟨ek, eh, ev', en, ea, es⟩ := e
  dsimp only at hk
  (try subst hk)
  obtain ⟨ga, gc, rfl, _⟩ := own_slice hh.g
  obtain ⟨xa, xc, rfl, _⟩ := own_slice hh.e
  obtain ⟨aa, ac, rfl, _⟩ := own_slice hh.a
  obtain ⟨ta, tc, rfl, _⟩ := own_slice hh.t
  have E0 := At.new w 41 (evl ⟨ek, eh, ev', en, ea, es⟩).toArray
  have F0 := (show Fr [] w (w.alloc (.cells (evl ⟨ek, eh, ev', en, ea, es⟩).toArray 41)) from (by repeat (first | exact Fr.refl _ _ | assumption | refine Fr.trans0 ?_ (by assumption) | refine Fr.drewN ?_ _ | refine Fr.alloc ?_ _ | refine Fr.drew ?_)))
  have HH := hh.fr0 F0
  have hpq : p < w.heap.size := hh.at_.lt
  have HIR := Lib.hid (show (Try.prog.info? 27).map (·.size) = some 2 by kernel_rfl)
  have HB0 := Lib.hid hh.lo
  have HAV := Lib.hid (show ∀ g, (Value.slice aa y.ks.length ac).ownBlock = some g → g < w.heap.size from fun g hg => (hh.a.lt g hg).2)
  clear hh
  obtain ⟨w1, hw1⟩ : ∃ W, w.alloc (.cells (evl ⟨ek, eh, ev', en, ea, es⟩).toArray 41) = W := ⟨_, rfl⟩
  rw [hw1] at E0 F0 HH
  unfold evl at E0
  dsimp only at E0
  have hs1 : w1.heap.size = w.heap.size + 1 := by rw [← hw1]; simp
  obtain ⟨q, hq⟩ : ∃ q, w.heap.size = q := ⟨_, rfl⟩
  rw [hq] at E0 hpq hs1 HAV
  have hne : ¬ p = q := by omega
  have hne2 : ¬ q = p := by omega
  have HP := Lib.hid HH.at_
  have HH := Lib.hid HH
  have F0 := Lib.hid F0
  have z0 := E0.cell 0
  have z1 := E0.cell 1
  have z3 := E0.cell 3
  have p0 := HP.out.cell 0
  have p1 := HP.out.cell 1
  have p2 := HP.out.cell 2
  have p3 := HP.out.cell 3
  have p4 := HP.out.cell 4
  have f0 := HP.out.froz 0
  have f1 := HP.out.froz 1
  have f2 := HP.out.froz 2
  have f3 := HP.out.froz 3
  have f4 := HP.out.froz 4
  have hpl := HP.out.lt
  simp only [List.getElem?_toArray, List.getElem?_cons_zero, List.getElem?_cons_succ] at z0 z1 z3 p0 p1 p2 p3 p4
  have E0 := Lib.hid E0
  obtain ⟨k1, k2, k3, k4, k5, k6, k7⟩ := hk
  have b1 : (ek == 2) = false := by simpa using k1
  have b2 : (ek == 3) = false := by simpa using k2
  have b3 : (ek == 6) = false := by simpa using k3
  have b4 : (ek == 4) = false := by simpa using k4
  have b5 : (ek == 7) = false := by simpa using k5
  have b6 : (ek == 11) = false := by simpa using k6
  have b7 : (ek == 10) = false := by simpa using k7
  go_enter Try.func41, Try.ntmps41
  go_upto_region 1 with (fail)
  clear hw1
  (try rw [hq])
  clear hq
  go_wp2_with fail
  go_end0
  exact ⟨⟨_, rfl⟩, ⟨_, _, _, _, HH.out⟩, F0.out.wid⟩
set_option maxHeartbeats 4000000 in
set_option maxRecDepth 100000 in
theorem rcount_G (w : World) (B p : Nat) (y : Rx) (gv ev av tv : Value) (hh : Rst w B p y gv ev av tv) (e : Ev) (i : Nat) (hk : e.kind = 2) (hn : y.gs.length ≤ 1000) (hkn : y.ks.length ≤ 1000) (hen : y.en.length ≤ 1000) :
    Calls Try.prog 41 #[.pointer (some ⟨p, 0, none⟩), .agg (evl e).toArray, .int .i64 i] w fun r w' => (∃ v, r = .returned v) ∧ (∃ gv' ev' av' tv', Rst w' B p { y with gs := y.gs ++ [⟨e.num, e.a, e.s, 1, 0⟩] } gv' ev' av' tv') ∧ Fr (sB p gv ev av tv) w w' := by
  obtain ⟨j0, hj, hy0, hy1, hy2⟩ := info_parts infoRG
  obtain ⟨ek, eh, ev', en, ea, es⟩ := e
  dsimp only at hk
  (try subst hk)
  obtain ⟨ga, gc, rfl, _⟩ := own_slice hh.g
  obtain ⟨xa, xc, rfl, _⟩ := own_slice hh.e
  obtain ⟨aa, ac, rfl, _⟩ := own_slice hh.a
  obtain ⟨ta, tc, rfl, _⟩ := own_slice hh.t
  have E0 := At.new w 41 (evl ⟨2, eh, ev', en, ea, es⟩).toArray
  have F0 := (show Fr [] w (w.alloc (.cells (evl ⟨2, eh, ev', en, ea, es⟩).toArray 41)) from (by repeat (first | exact Fr.refl _ _ | assumption | refine Fr.trans0 ?_ (by assumption) | refine Fr.drewN ?_ _ | refine Fr.alloc ?_ _ | refine Fr.drew ?_)))
  have HH := hh.fr0 F0
  have hpq : p < w.heap.size := hh.at_.lt
  have HIR := Lib.hid (show (Try.prog.info? 27).map (·.size) = some 2 by kernel_rfl)
  have HB0 := Lib.hid hh.lo
  have HAV := Lib.hid (show ∀ g, (Value.slice aa y.ks.length ac).ownBlock = some g → g < w.heap.size from fun g hg => (hh.a.lt g hg).2)
  clear hh
  obtain ⟨w1, hw1⟩ : ∃ W, w.alloc (.cells (evl ⟨2, eh, ev', en, ea, es⟩).toArray 41) = W := ⟨_, rfl⟩
  rw [hw1] at E0 F0 HH
  unfold evl at E0
  dsimp only at E0
  have hs1 : w1.heap.size = w.heap.size + 1 := by rw [← hw1]; simp
  obtain ⟨q, hq⟩ : ∃ q, w.heap.size = q := ⟨_, rfl⟩
  rw [hq] at E0 hpq hs1 HAV
  have hne : ¬ p = q := by omega
  have hne2 : ¬ q = p := by omega
  have HP := Lib.hid HH.at_
  have HH := Lib.hid HH
  have F0 := Lib.hid F0
  have z0 := E0.cell 0
  have z1 := E0.cell 1
  have z3 := E0.cell 3
  have p0 := HP.out.cell 0
  have p1 := HP.out.cell 1
  have p2 := HP.out.cell 2
  have p3 := HP.out.cell 3
  have p4 := HP.out.cell 4
  have f0 := HP.out.froz 0
  have f1 := HP.out.froz 1
  have f2 := HP.out.froz 2
  have f3 := HP.out.froz 3
  have f4 := HP.out.froz 4
  have hpl := HP.out.lt
  simp only [List.getElem?_toArray, List.getElem?_cons_zero, List.getElem?_cons_succ] at z0 z1 z3 p0 p1 p2 p3 p4
  have E0 := Lib.hid E0
  have XF := Lib.hid (show Fr [] w1 (w1.alloc (.cells #[.int .u64 en, .int .u32 ea, .int .u32 es, .int .i64 1, .int .i64 0] 103)).drew from ((Fr.refl _ _).alloc _).drew)
  have XG := Lib.hid (own_fr0 HH.out.g XF.out)
  have hxn := (At.new w1 103 #[.int .u64 en, .int .u32 ea, .int .u32 es, .int .i64 1, .int .i64 0])
  rw [hs1] at hxn
  have XN := Lib.hid (((hxn.hp (w' := (w1.alloc (.cells #[.int .u64 en, .int .u32 ea, .int .u32 es, .int .i64 1, .int .i64 0] 103)).drew) rfl)).all [.int .u64 en, .int .u32 ea, .int .u32 es, .int .i64 1, .int .i64 0] rfl)
  have XS := Lib.hid (show B ≤ (w1.alloc (.cells #[.int .u64 en, .int .u32 ea, .int .u32 es, .int .i64 1, .int .i64 0] 103)).drew.heap.size from Nat.le_trans HH.out.lo XF.out.size)
  clear hxn
  go_enter Try.func41, Try.ntmps41
  go_upto_region 1 with (fail)
  clear hw1
  (try rw [hq])
  clear hq
  go_upto_region 3 with (fail)
  clear z0 z1 z3 p0 p1 p2 p3 p4 f0 f1 f2 f3 f4
  refine wp_region_L (fun W => At W p 84 #[.slice ga y.gs.length gc, .bool y.sw, .int .u64 y.la, .int .i64 y.be, .slice xa y.en.length xc, .slice aa y.ks.length ac, .slice ta y.ks.length tc] ∧ At W q 41 #[.int .i64 2, .int .i64 eh, .int .u32 ev', .int .u64 en, .int .u32 ea, .int .u32 es]) [14] (by kernel_rfl) ⟨HP.out.hp rfl, E0.out.hp rfl⟩ (fun hHeld => ?_)
  refine wpAnyL_take (i := 0) (v := ?_) rfl (by kernel_rfl) (fun _ _ _ h => h) (Or.inl ⟨by rfl, ?_⟩) (by assumption) ?_; rotate_left; (focus (intro w hSw; skip; go_simp; (try with_reducible rfl))); (try (refine wpAnyL_norm (by simp only [Act.put, List.setIfInBounds_toArray, List.set_cons_zero, List.set_cons_succ]; rfl) ?_))
  refine wpAnyL_take (i := 1) (v := ?_) rfl (by kernel_rfl) (fun _ _ _ h => h) (Or.inl ⟨by rfl, ?_⟩) (by assumption) ?_; rotate_left; (focus (intro w hSw; skip; go_simp; (try with_reducible rfl))); (try (refine wpAnyL_norm (by simp only [Act.put, List.setIfInBounds_toArray, List.set_cons_zero, List.set_cons_succ]; rfl) ?_))
  refine wpAnyL_take (i := 2) (v := ?_) rfl (by kernel_rfl) (fun _ _ _ h => h) (Or.inl ⟨by rfl, ?_⟩) (by assumption) ?_; rotate_left; (focus (intro w hSw; skip; go_simp; (try with_reducible rfl))); (try (refine wpAnyL_norm (by simp only [Act.put, List.setIfInBounds_toArray, List.set_cons_zero, List.set_cons_succ]; rfl) ?_))
  refine wpAnyL_take (i := 3) (v := ?_) rfl (by kernel_rfl) (fun _ _ _ h => h) (Or.inl ⟨by rfl, ?_⟩) (by assumption) ?_; rotate_left; (focus (intro w hSw; skip; go_simp; (try with_reducible rfl))); (try (refine wpAnyL_norm (by simp only [Act.put, List.setIfInBounds_toArray, List.set_cons_zero, List.set_cons_succ]; rfl) ?_))
  refine wpAnyL_take (i := 4) (v := ?_) rfl (by kernel_rfl) (fun _ _ _ h => h) (Or.inl ⟨by rfl, ?_⟩) (by assumption) ?_; rotate_left; (focus (intro w hSw; have c := hSw.1.cell 0; go_simp; (try with_reducible rfl))); (try (refine wpAnyL_norm (by simp only [Act.put, List.setIfInBounds_toArray, List.set_cons_zero, List.set_cons_succ]; rfl) ?_))
  refine wpAnyL_take (i := 5) (v := ?_) rfl (by kernel_rfl) (fun _ _ _ h => h) (Or.inl ⟨by rfl, ?_⟩) (by assumption) ?_; rotate_left; (focus (intro w hSw; skip; go_simp; (try with_reducible rfl))); (try (refine wpAnyL_norm (by simp only [Act.put, List.setIfInBounds_toArray, List.set_cons_zero, List.set_cons_succ]; rfl) ?_))
  refine wpAnyL_take (i := 6) (v := ?_) rfl (by kernel_rfl) (fun _ _ _ h => h) (Or.inl ⟨by rfl, ?_⟩) (by assumption) ?_; rotate_left; (focus (intro w hSw; have c := hSw.2.cell 3; go_simp; (try with_reducible rfl))); (try (refine wpAnyL_norm (by simp only [Act.put, List.setIfInBounds_toArray, List.set_cons_zero, List.set_cons_succ]; rfl) ?_))
  refine wpAnyL_take (i := 7) (v := ?_) rfl (by kernel_rfl) (fun _ _ _ h => h) (Or.inl ⟨by rfl, ?_⟩) (by assumption) ?_; rotate_left; (focus (intro w hSw; skip; go_simp; (try with_reducible rfl))); (try (refine wpAnyL_norm (by simp only [Act.put, List.setIfInBounds_toArray, List.set_cons_zero, List.set_cons_succ]; rfl) ?_))
  refine wpAnyL_take (i := 8) rfl (by kernel_rfl) (fun _ _ _ h => h) (yields_load_at 27 (.tmp 19) rfl ⟨q, 4, none⟩ rfl [.int .u32 ea, .int .u32 es] _ (fun W hW => hW.2.two 4 _ _ rfl rfl) Try.underlying27 rfl HIR.out rfl) (by assumption) ?_; (try (refine wpAnyL_norm (by simp only [Act.put, List.setIfInBounds_toArray, List.set_cons_zero, List.set_cons_succ]; rfl) ?_))
  refine wpAnyL_take (i := 9) (v := ?_) rfl (by kernel_rfl) (fun _ _ _ h => h) (Or.inl ⟨by rfl, ?_⟩) (by assumption) ?_; rotate_left; (focus (intro w hSw; skip; go_simp; (try with_reducible rfl))); (try (refine wpAnyL_norm (by simp only [Act.put, List.setIfInBounds_toArray, List.set_cons_zero, List.set_cons_succ]; rfl) ?_))
  refine wpAnyL_ready (rs := [10]) (by kernel_rfl) (by simp) ?_; refine AllReadyL.cons rfl (fun K hK => ?_) AllReadyL.nil
  go_simp
  refine hK.out _ _ (fun _ => ⟨hHeld.1.old _, hHeld.2.old _⟩) (fun hHeld' => ?_); have hHeld := hHeld' (by decide); clear hHeld' hK K; (try (refine wpAnyL_norm (by simp only [Act.put, List.setIfInBounds_toArray, List.set_cons_zero, List.set_cons_succ]; rfl) ?_))
  obtain ⟨X, hX⟩ : ∃ X, (w1.alloc (.cells #[.int .u64 en, .int .u32 ea, .int .u32 es, .int .i64 1, .int .i64 0] 103)).drew = X := ⟨_, rfl⟩
  have XF := XF.out
  have XG := XG.out
  have XN := XN.out
  have XS := XS.out
  rw [hX] at XF XG XN XS hHeld ⊢
  clear hX
  have XF := Lib.hid XF
  have XG := Lib.hid XG
  have XN := Lib.hid XN
  refine wpAnyL_ready (rs := [11]) (by kernel_rfl) (by simp) ?_; refine AllReadyL.cons rfl (fun K hK => ?_) AllReadyL.nil
  rw [if_pos (by rfl)]
  refine wp_append_at (.tmp 16) (.tmp 22) 82 rfl B 103 j0 (.agg #[.int .u64 0, .int .u32 0, .int .u32 0, .int .i64 0, .int .i64 0]) 5 32 Try.underlying82 hj hy0 hy1 hy2 rfl (by omega) (.slice ga y.gs.length gc) y.gs.length (rgC y.gs) rfl XG.out ⟨q + 1, 0, none⟩ 1 1 [.int .u64 en, .int .u32 ea, .int .u32 es, .int .i64 1, .int .i64 0] rfl rfl XN.out (by simp [Value.oneCell']) (by unfold maxLen; omega) (by omega) (by omega) ?_
  intro v1 w7 hown7 hg7 hnil7 hat7
  obtain ⟨va, vc, rfl, hvc⟩ := own_slice hown7
  have P7 := hHeld.1.fr (Fr.grown hg7) (own_toList XG.out hHeld.1 (by decide))
  have E7 := hHeld.2.fr (Fr.grown hg7) (own_toList XG.out hHeld.2 (by decide))
  refine hK.out _ _ (fun _ => ⟨P7, E7⟩) (fun hHeld' => ?_); have hHeld := hHeld' (by decide); clear hHeld' hK K; (try (refine wpAnyL_norm (by simp only [Act.put, List.setIfInBounds_toArray, List.set_cons_zero, List.set_cons_succ]; rfl) ?_))
  have c0 := P7.cell 0
  have cz := P7.froz 0
  simp only [List.getElem?_toArray, List.getElem?_cons_zero] at c0
  refine wpAnyL_take (i := 12) (v := ?_) rfl (by kernel_rfl) (fun _ _ _ h => h) (Or.inl ⟨by rfl, ?_⟩) (by assumption) ?_; rotate_left; (focus (intro w hSw; skip; go_simp; (try with_reducible rfl))); (try (refine wpAnyL_norm (by simp only [Act.put, List.setIfInBounds_toArray, List.set_cons_zero, List.set_cons_succ]; rfl) ?_))
  refine wpAnyL_take (i := 13) (v := ?_) rfl (by kernel_rfl) (fun _ _ _ h => h) (Or.inl ⟨by rfl, ?_⟩) (by assumption) ?_; rotate_left; (focus (intro w hSw; skip; go_simp; (try with_reducible rfl))); (try (refine wpAnyL_norm (by simp only [Act.put, List.setIfInBounds_toArray, List.set_cons_zero, List.set_cons_succ]; rfl) ?_))
  have HRS := Lib.hid (HH.out.addG (g := ⟨en, ea, es, 1, 0⟩) XF.out hg7 hown7)
  clear hg7 hown7 hnil7 hat7
  refine wpAnyL_ready (rs := [14]) (by kernel_rfl) (by simp) ?_; refine AllReadyL.cons rfl (fun K hK => ?_) AllReadyL.nil
  go_simp
  refine hK.out _ _ (fun h => (h (by decide)).elim) (fun _ => ?_); clear hK K; (try (refine wpAnyL_norm (by simp only [Act.put, List.setIfInBounds_toArray, List.set_cons_zero, List.set_cons_succ]; rfl) ?_))
  refine wpAnyL_done (by kernel_rfl) ?_ _
  go_wp2_with fail
  go_end0
  exact ⟨⟨_, rfl⟩, ⟨_, _, _, _, HRS.out.1⟩, (F0.out.wid).trans HRS.out.2 (fun _ h => .inl h)⟩
set_option maxHeartbeats 4000000 in
set_option maxRecDepth 100000 in
theorem rcount_A (w : World) (B p : Nat) (y : Rx) (gv ev av tv : Value) (hh : Rst w B p y gv ev av tv) (e : Ev) (i : Nat) (hk : e.kind = 11) (hn : y.gs.length ≤ 1000) (hkn : y.ks.length ≤ 1000) (hen : y.en.length ≤ 1000) :
    Calls Try.prog 41 #[.pointer (some ⟨p, 0, none⟩), .agg (evl e).toArray, .int .i64 i] w fun r w' => (∃ v, r = .returned v) ∧ (∃ gv' ev' av' tv', Rst w' B p { y with ks := y.ks ++ [(e, i)] } gv' ev' av' tv') ∧ Fr (sB p gv ev av tv) w w' := by
  obtain ⟨i0, hi, hz0, hz1, hz2⟩ := info_parts infoEvZ
  obtain ⟨j0, hj, hy0, hy1, hy2⟩ := info_parts infoIntZ
  obtain ⟨ek, eh, ev', en, ea, es⟩ := e
  dsimp only at hk
  (try subst hk)
  obtain ⟨ga, gc, rfl, _⟩ := own_slice hh.g
  obtain ⟨xa, xc, rfl, _⟩ := own_slice hh.e
  obtain ⟨aa, ac, rfl, _⟩ := own_slice hh.a
  obtain ⟨ta, tc, rfl, _⟩ := own_slice hh.t
  have E0 := At.new w 41 (evl ⟨11, eh, ev', en, ea, es⟩).toArray
  have F0 := (show Fr [] w (w.alloc (.cells (evl ⟨11, eh, ev', en, ea, es⟩).toArray 41)) from (by repeat (first | exact Fr.refl _ _ | assumption | refine Fr.trans0 ?_ (by assumption) | refine Fr.drewN ?_ _ | refine Fr.alloc ?_ _ | refine Fr.drew ?_)))
  have HH := hh.fr0 F0
  have hpq : p < w.heap.size := hh.at_.lt
  have HIR := Lib.hid (show (Try.prog.info? 27).map (·.size) = some 2 by kernel_rfl)
  have HB0 := Lib.hid hh.lo
  have HAV := Lib.hid (show ∀ g, (Value.slice aa y.ks.length ac).ownBlock = some g → g < w.heap.size from fun g hg => (hh.a.lt g hg).2)
  clear hh
  obtain ⟨w1, hw1⟩ : ∃ W, w.alloc (.cells (evl ⟨11, eh, ev', en, ea, es⟩).toArray 41) = W := ⟨_, rfl⟩
  rw [hw1] at E0 F0 HH
  unfold evl at E0
  dsimp only at E0
  have hs1 : w1.heap.size = w.heap.size + 1 := by rw [← hw1]; simp
  obtain ⟨q, hq⟩ : ∃ q, w.heap.size = q := ⟨_, rfl⟩
  rw [hq] at E0 hpq hs1 HAV
  have hne : ¬ p = q := by omega
  have hne2 : ¬ q = p := by omega
  have HP := Lib.hid HH.at_
  have HH := Lib.hid HH
  have F0 := Lib.hid F0
  have z0 := E0.cell 0
  have z1 := E0.cell 1
  have z3 := E0.cell 3
  have p0 := HP.out.cell 0
  have p1 := HP.out.cell 1
  have p2 := HP.out.cell 2
  have p3 := HP.out.cell 3
  have p4 := HP.out.cell 4
  have f0 := HP.out.froz 0
  have f1 := HP.out.froz 1
  have f2 := HP.out.froz 2
  have f3 := HP.out.froz 3
  have f4 := HP.out.froz 4
  have hpl := HP.out.lt
  simp only [List.getElem?_toArray, List.getElem?_cons_zero, List.getElem?_cons_succ] at z0 z1 z3 p0 p1 p2 p3 p4
  have E0 := Lib.hid E0
  have XF := Lib.hid (show Fr [] w1 (w1.alloc (.cells #[.int .i64 11, .int .i64 eh, .int .u32 ev', .int .u64 en, .int .u32 ea, .int .u32 es] 41)).drew from ((Fr.refl _ _).alloc _).drew)
  have XG := Lib.hid (own_fr0 HH.out.a XF.out)
  have hxn := (At.new w1 41 #[.int .i64 11, .int .i64 eh, .int .u32 ev', .int .u64 en, .int .u32 ea, .int .u32 es])
  rw [hs1] at hxn
  have XN := Lib.hid (((hxn.hp (w' := (w1.alloc (.cells #[.int .i64 11, .int .i64 eh, .int .u32 ev', .int .u64 en, .int .u32 ea, .int .u32 es] 41)).drew) rfl)).all [.int .i64 11, .int .i64 eh, .int .u32 ev', .int .u64 en, .int .u32 ea, .int .u32 es] rfl)
  have XS := Lib.hid (show B ≤ (w1.alloc (.cells #[.int .i64 11, .int .i64 eh, .int .u32 ev', .int .u64 en, .int .u32 ea, .int .u32 es] 41)).drew.heap.size from Nat.le_trans HH.out.lo XF.out.size)
  clear hxn
  go_enter Try.func41, Try.ntmps41
  go_upto_region 1 with (fail)
  clear hw1
  (try rw [hq])
  clear hq
  go_upto_region 19 with (fail)
  clear z0 z1 z3 p0 p1 p2 p3 p4 f0 f1 f2 f3 f4
  refine wp_region_L (fun W => At W p 84 #[.slice ga y.gs.length gc, .bool y.sw, .int .u64 y.la, .int .i64 y.be, .slice xa y.en.length xc, .slice aa y.ks.length ac, .slice ta y.ks.length tc] ∧ At W q 41 #[.int .i64 11, .int .i64 eh, .int .u32 ev', .int .u64 en, .int .u32 ea, .int .u32 es]) [10] (by kernel_rfl) ⟨HP.out.hp rfl, E0.out.hp rfl⟩ (fun hHeld => ?_)
  refine wpAnyL_take (i := 0) (v := ?_) rfl (by kernel_rfl) (fun _ _ _ h => h) (Or.inl ⟨by rfl, ?_⟩) (by assumption) ?_; rotate_left; (focus (intro w hSw; skip; go_simp; (try with_reducible rfl))); (try (refine wpAnyL_norm (by simp only [Act.put, List.setIfInBounds_toArray, List.set_cons_zero, List.set_cons_succ]; rfl) ?_))
  refine wpAnyL_take (i := 1) (v := ?_) rfl (by kernel_rfl) (fun _ _ _ h => h) (Or.inl ⟨by rfl, ?_⟩) (by assumption) ?_; rotate_left; (focus (intro w hSw; skip; go_simp; (try with_reducible rfl))); (try (refine wpAnyL_norm (by simp only [Act.put, List.setIfInBounds_toArray, List.set_cons_zero, List.set_cons_succ]; rfl) ?_))
  refine wpAnyL_take (i := 2) (v := ?_) rfl (by kernel_rfl) (fun _ _ _ h => h) (Or.inl ⟨by rfl, ?_⟩) (by assumption) ?_; rotate_left; (focus (intro w hSw; skip; go_simp; (try with_reducible rfl))); (try (refine wpAnyL_norm (by simp only [Act.put, List.setIfInBounds_toArray, List.set_cons_zero, List.set_cons_succ]; rfl) ?_))
  refine wpAnyL_take (i := 3) (v := ?_) rfl (by kernel_rfl) (fun _ _ _ h => h) (Or.inl ⟨by rfl, ?_⟩) (by assumption) ?_; rotate_left; (focus (intro w hSw; skip; go_simp; (try with_reducible rfl))); (try (refine wpAnyL_norm (by simp only [Act.put, List.setIfInBounds_toArray, List.set_cons_zero, List.set_cons_succ]; rfl) ?_))
  refine wpAnyL_take (i := 4) (v := ?_) rfl (by kernel_rfl) (fun _ _ _ h => h) (Or.inl ⟨by rfl, ?_⟩) (by assumption) ?_; rotate_left; (focus (intro w hSw; have c := hSw.1.cell 5; go_simp; (try with_reducible rfl))); (try (refine wpAnyL_norm (by simp only [Act.put, List.setIfInBounds_toArray, List.set_cons_zero, List.set_cons_succ]; rfl) ?_))
  refine wpAnyL_take (i := 5) rfl (by kernel_rfl) (fun _ _ _ h => h) (yields_load_at 41 (.tmp 4) rfl ⟨q, 0, none⟩ rfl [.int .i64 11, .int .i64 eh, .int .u32 ev', .int .u64 en, .int .u32 ea, .int .u32 es] _ (fun W hW => hW.2.all _ rfl) Try.underlying41 rfl infoEv rfl) (by assumption) ?_; (try (refine wpAnyL_norm (by simp only [Act.put, List.setIfInBounds_toArray, List.set_cons_zero, List.set_cons_succ]; rfl) ?_))
  refine wpAnyL_ready (rs := [6]) (by kernel_rfl) (by simp) ?_; refine AllReadyL.cons rfl (fun K hK => ?_) AllReadyL.nil
  go_simp
  refine hK.out _ _ (fun _ => ⟨hHeld.1.old _, hHeld.2.old _⟩) (fun hHeld' => ?_); have hHeld := hHeld' (by decide); clear hHeld' hK K; (try (refine wpAnyL_norm (by simp only [Act.put, List.setIfInBounds_toArray, List.set_cons_zero, List.set_cons_succ]; rfl) ?_))
  obtain ⟨X, hX⟩ : ∃ X, (w1.alloc (.cells #[.int .i64 11, .int .i64 eh, .int .u32 ev', .int .u64 en, .int .u32 ea, .int .u32 es] 41)).drew = X := ⟨_, rfl⟩
  have XF := XF.out
  have XG := XG.out
  have XN := XN.out
  have XS := XS.out
  rw [hX] at XF XG XN XS hHeld ⊢
  clear hX
  have XF := Lib.hid XF
  have XG := Lib.hid XG
  have XN := Lib.hid XN
  refine wpAnyL_ready (rs := [7]) (by kernel_rfl) (by simp) ?_; refine AllReadyL.cons rfl (fun K hK => ?_) AllReadyL.nil
  rw [if_pos (by rfl)]
  refine wp_append_at (.tmp 93) (.tmp 95) 36 rfl B 41 i0 (.agg #[.int .i64 0, .int .i64 0, .int .u32 0, .int .u64 0, .int .u32 0, .int .u32 0]) 6 40 Try.underlying36 hi hz0 hz1 hz2 rfl (by omega) (.slice aa y.ks.length ac) y.ks.length (evC (y.ks.map (·.1))) rfl XG.out ⟨q + 1, 0, none⟩ 1 1 [.int .i64 11, .int .i64 eh, .int .u32 ev', .int .u64 en, .int .u32 ea, .int .u32 es] rfl rfl XN.out (by simp [Value.oneCell']) (by unfold maxLen; omega) (by omega) (by omega) ?_
  intro v1 w7 hown7 hg7 hnil7 hat7
  obtain ⟨va, vc, rfl, hvc⟩ := own_slice hown7
  have P7 := hHeld.1.fr (Fr.grown hg7) (own_toList XG.out hHeld.1 (by decide))
  have E7 := hHeld.2.fr (Fr.grown hg7) (by
    intro hm
    cases hv : (Value.slice aa y.ks.length ac).ownBlock with
    | none => rw [hv] at hm; simp at hm
    | some g => have := HAV.out g hv; rw [hv] at hm; simp at hm; omega)
  refine hK.out _ _ (fun _ => ⟨P7, E7⟩) (fun hHeld' => ?_); have hHeld := hHeld' (by decide); clear hHeld' hK K; (try (refine wpAnyL_norm (by simp only [Act.put, List.setIfInBounds_toArray, List.set_cons_zero, List.set_cons_succ]; rfl) ?_))
  have c0 := P7.cell 5
  have cz := P7.froz 5
  simp only [List.getElem?_toArray, List.getElem?_cons_zero, List.getElem?_cons_succ] at c0
  refine wpAnyL_take (i := 8) (v := ?_) rfl (by kernel_rfl) (fun _ _ _ h => h) (Or.inl ⟨by rfl, ?_⟩) (by assumption) ?_; rotate_left; (focus (intro w hSw; skip; go_simp; (try with_reducible rfl))); (try (refine wpAnyL_norm (by simp only [Act.put, List.setIfInBounds_toArray, List.set_cons_zero, List.set_cons_succ]; rfl) ?_))
  refine wpAnyL_take (i := 9) (v := ?_) rfl (by kernel_rfl) (fun _ _ _ h => h) (Or.inl ⟨by rfl, ?_⟩) (by assumption) ?_; rotate_left; (focus (intro w hSw; skip; go_simp; (try with_reducible rfl))); (try (refine wpAnyL_norm (by simp only [Act.put, List.setIfInBounds_toArray, List.set_cons_zero, List.set_cons_succ]; rfl) ?_))
  have HRS := Lib.hid (HH.out.addA1 (e := ⟨11, eh, ev', en, ea, es⟩) XF.out hg7 hown7)
  clear hg7 hown7 hnil7 hat7
  refine wpAnyL_ready (rs := [10]) (by kernel_rfl) (by simp) ?_; refine AllReadyL.cons rfl (fun K hK => ?_) AllReadyL.nil
  go_simp
  refine hK.out _ _ (fun h => (h (by decide)).elim) (fun _ => ?_); clear hK K; (try (refine wpAnyL_norm (by simp only [Act.put, List.setIfInBounds_toArray, List.set_cons_zero, List.set_cons_succ]; rfl) ?_))
  refine wpAnyL_done (by kernel_rfl) ?_ _
  go_upto_region 20 with (fail)
  obtain ⟨W, hW⟩ : ∃ W, w7.setCell ⟨p, 5, none⟩ (.slice va (y.ks.length + 1) vc) = W := ⟨_, rfl⟩
  have h2 := HRS.out
  rw [hW] at h2 ⊢
  obtain ⟨m1, m2, m3, m4, m5, m6⟩ := h2
  have g6 := m1.cell 6
  simp only [List.getElem?_toArray, List.getElem?_cons_zero, List.getElem?_cons_succ] at g6
  have hfa : Fr [] W (W.alloc (.cells #[.int .i64 i] 3)) := (Fr.refl _ _).alloc _
  have HFA := Lib.hid hfa
  have EA := Lib.hid (own_fr0 m5 hfa)
  have PA := Lib.hid (m1.fr hfa (by simp))
  have HBW : B ≤ W.heap.size := Nat.le_trans HH.out.lo (Nat.le_trans (Nat.le_of_eq (by rw [hs1])) (by have := F0.out.size; have := m6.size; omega))
  have hpW := m1.lt
  have M1 := Lib.hid m1
  have M2 := Lib.hid m2
  have M3 := Lib.hid m3
  have M4 := Lib.hid m4
  have M5 := Lib.hid m5
  have M6 := Lib.hid m6
  clear hW hfa m1 m2 m3 m4 m5 m6 c0 cz P7 E7 hHeld HRS hs1
  go_wp2_with (at_builtin; refine wpList_append_own_at _ rfl (.tmp 103) (.tmp 105) 31 rfl B 3 j0 (.int .i64 0) 1 8 Try.underlying31 hj hy0 hy1 hy2 rfl (by omega) (.slice ta y.ks.length tc) y.ks.length (nts (y.ks.map (·.2))) rfl EA.out ⟨W.heap.size, 0, none⟩ 1 1 [.int .i64 i] rfl rfl (cell_one_new _ _ _) (by simp [Value.oneCell']) (by unfold maxLen; omega) (by omega) (by simp; omega) ?_; intro v2 w8 hown8 hg8 hnil8 hat8; obtain ⟨ua, uc, rfl, hvc8⟩ := own_slice hown8; have P8 := PA.out.fr (Fr.grown hg8) (own_toList EA.out PA.out (by decide)); have q4 := P8.cell 6; have q4z := P8.froz 6; have hp8 := P8.lt; simp only [List.getElem?_toArray, List.getElem?_cons_zero, List.getElem?_cons_succ] at q4)
  go_end0
  have a2 := HH.out.addA2 (e := ⟨11, eh, ev', en, ea, es⟩) M1.out M2.out M3.out M4.out M5.out M6.out HFA.out hg8 hown8 hat8
  exact ⟨⟨_, rfl⟩, ⟨_, _, _, _, a2.1⟩, (F0.out.wid).trans a2.2 (fun _ h => .inl h)⟩
theorem rcount_any (w : World) (B p ha hs : Nat) (y : Rx) (gv ev av tv : Value) (hh : Rst w B p y gv ev av tv) (e : Ev) (i : Nat) (hn : y.gs.length ≤ 1000) (hkn : y.ks.length ≤ 1000) (hen : y.en.length ≤ 1000) (hf : faultR ha hs y e = 0) :
    Calls Try.prog 41 #[.pointer (some ⟨p, 0, none⟩), .agg (evl e).toArray, .int .i64 i] w fun r w' => (∃ v, r = .returned v) ∧ (∃ gv' ev' av' tv', Rst w' B p (countR y e i) gv' ev' av' tv') ∧ Fr (sB p gv ev av tv) w w' := by
  unfold faultR at hf
  unfold countR
  by_cases k2 : e.kind = 2
  · rw [if_pos k2]
    exact rcount_G w B p y gv ev av tv hh e i k2 hn hkn hen
  rw [if_neg k2]
  rw [if_neg k2] at hf
  by_cases k3 : e.kind = 3
  · rw [if_pos k3]
    rw [if_pos k3] at hf
    exact rcount_F w B p y gv ev av tv hh e i k3 hn hkn hen (fun h => by unfold faultF at hf; rw [h] at hf; cases hf)
  rw [if_neg k3]
  rw [if_neg k3] at hf
  by_cases k6 : e.kind = 6
  · rw [if_pos k6]
    exact rcount_B w B p y gv ev av tv hh e i k6 hn hkn hen
  rw [if_neg k6]
  rw [if_neg k6] at hf
  by_cases k4 : e.kind = 4
  · rw [if_pos k4]
    rw [if_pos k4] at hf
    exact rcount_L w B p y gv ev av tv hh e i k4 hn hkn hen (fun h => by unfold faultL at hf; rw [h] at hf; cases hf)
  rw [if_neg k4]
  rw [if_neg k4] at hf
  by_cases k7 : e.kind = 7
  · rw [if_pos k7]
    exact rcount_E w B p y gv ev av tv hh e i k7 hn hkn hen
  rw [if_neg k7]
  rw [if_neg k7] at hf
  by_cases k11 : e.kind = 11
  · rw [if_pos k11]
    exact rcount_A w B p y gv ev av tv hh e i k11 hn hkn hen
  rw [if_neg k11]
  rw [if_neg k11] at hf
  by_cases k10 : e.kind = 10
  · rw [if_pos k10]
    rw [if_pos k10] at hf
    exact rcount_D w B p y gv ev av tv hh e i k10 hn hkn hen (fun h => by unfold faultD at hf; rw [h] at hf; cases hf)
  rw [if_neg k10]
  exact rcount_O w B p y gv ev av tv hh e i ⟨k2, k3, k6, k4, k7, k11, k10⟩
end Go.Proofs.Ytkbdoiefgmbikaa
