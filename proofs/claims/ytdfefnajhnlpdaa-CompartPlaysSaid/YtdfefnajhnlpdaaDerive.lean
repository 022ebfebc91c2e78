/-
  What derive.Addr computes: the cursor elsewhere, valid while it was, is not sealed, and the bounds are kept. Condition: numbers in their types' ranges.
-/


import Derived.Test.YtdfefnajhnlpdaaFrame
import Derived.Laws.EntriesVeiled
import Derived.Deep.RegionHeld3
set_option linter.unusedVariables false
namespace Go.Proofs.Ytdfefnajhnlpdaa
open Go.ChangeShapes Go.WideShapes Go.ChangeAt Go.RowKit
theorem res_row {P : Program} {fn : Func} {p : Tmp} {ty : TypeId} (h : fn.results = #[.cell p ty]) (tmps : Array Value) (w : World) (g : Nat) (t : TypeId) (cs : Array Value) (d : TypeDesc)
    (hp : tmps.getD p undef = .pointer (some ⟨g, 0, none⟩)) (hg : At w g t cs)
    (hu : P.underlying ty = some d) (hd : (match d with | .struct _ | .array _ _ => true | _ => false) = true) (hi : (P.info? ty).map (·.size) = some cs.size) :
    (results fn tmps).run P w = .ok (.agg cs) w := results_cell_row h tmps w g t cs (0, 0) d hp hg hu hd hi
def keepB (e b t c n : Nat) : Bool := mayB e b t && (okB (ofI (hiI e b c) e b b) (ofI (hiI e b c) e b t) && ((ofI (hiI e b c) e b b == ofI (hiI e b n) e b b) && (ofI (hiI e b c) e b t == ofI (hiI e b n) e b t)))
theorem eq_arr2 (a b c d : Int) (w : World) : (Op.equalIn 10000 111 (.agg #[.int .i64 a, .int .i64 b]) (.agg #[.int .i64 c, .int .i64 d])).run Try.prog w = .ok (a == c && b == d) w := by
  have u3 := Try.underlying2
  have a3 := Try.isAgg2
  have z3 := Try.sizeOf2
  rw [show (10000 : Nat) = 9999 + 1 from rfl, Op.equalIn]
  simp only [Sem.run_bind, run_underlying Try.underlying111, Result.andThen_ok]
  simp only [Std.Legacy.Range.forIn_eq_forIn_range', Std.Legacy.Range.size, Nat.sub_zero, Nat.add_sub_cancel, Nat.div_one, List.range'_succ, List.range'_zero, List.forIn_cons, List.forIn_nil]
  go_simp
  by_cases h1 : a = c <;> by_cases h2 : b = d <;> simp [h1, h2]
set_option maxRecDepth 100000 in
theorem keeps_any (w : World) (e b t c n : Nat) (hc : c < 4294967296) (hn : n < 4294967296) :
    Calls Try.prog 44 #[.int .u8 e, .int .u16 b, .int .u16 t, .int .u32 c, .int .u32 n] w fun r w' => r = .returned (.bool (keepB e b t c n)) ∧ Fr [] w w' := by
  unfold keepB
  by_cases hm : mayB e b t = true
  · have hm2 := hm
    unfold mayB at hm2
    simp only [Bool.and_eq_true, decide_eq_true_eq] at hm2
    obtain ⟨h1, h2, h3⟩ := hm2
    rw [hm, Bool.true_and]
    have C1 := Lib.hid fun W => tell_yes W e b t c h1 h2 h3 hc
    have C2 := Lib.hid fun W => tell_yes W e b t n h1 h2 h3 hn
    generalize ofI (hiI e b c) e b b = X at *
    generalize ofI (hiI e b c) e b t = Y at *
    generalize ofI (hiI e b n) e b b = U at *
    generalize ofI (hiI e b n) e b t = V at *
    generalize okB X Y = k at *
    generalize okB U V = k2 at *
    clear hm h1 h2 h3
    have HE := fun W => eq_arr2 X Y U V W
    cases k
    all_goals
      go_enter Try.func44, Try.ntmps44
      go_wp2_with fail
      refine (C1.out _).mono ?_
      rintro e w2 ⟨rfl, hf2⟩
      go_wp2_with fail
      refine (C2.out _).mono ?_
      rintro e w3 ⟨rfl, hf3⟩
      have hs3 := hf3.size
      have A3 := (At.new w2 111 #[.int .i64 X, .int .i64 Y]).fr hf3 (by simp)
      have F3 := Lib.hid ((hf2.alloc (.cells #[.int .i64 X, .int .i64 Y] 111)).trans0 hf3)
      obtain ⟨q, hq⟩ : ∃ q, w2.heap.size = q := ⟨_, rfl⟩
      rw [hq] at A3 ⊢
      have d0 := A3.cell 0
      have d1 := A3.cell 1
      simp only [List.getElem?_toArray, List.getElem?_cons_zero, List.getElem?_cons_succ] at d0 d1
      have hql := A3.lt
      clear hf2 hf3 hs3 A3 hq
      go_wp2_with fail
      go_ret
      refine ⟨?_, F3.out.alloc _⟩
      first | rfl | (simp; done)
  · rw [Bool.not_eq_true] at hm
    have C1 := Lib.hid fun W => tell_no W e b t c hm
    have C2 := Lib.hid fun W => tell_no W e b t n hm
    rw [hm, Bool.false_and]
    clear hm
    go_enter Try.func44, Try.ntmps44
    go_wp2_with fail
    refine (C1.out _).mono ?_
    rintro e w2 ⟨rfl, hf2⟩
    go_wp2_with fail
    refine (C2.out _).mono ?_
    rintro e w3 ⟨rfl, hf3⟩
    have F3 := Lib.hid ((hf2.alloc (.cells #[.int .i64 0, .int .i64 0] 111)).trans0 hf3)
    clear hf2 hf3
    go_wp2_with fail
    go_ret
    exact ⟨rfl, F3.out.alloc _⟩
def Cp.fre (c : Cp) : Bool := c.v && (((c.ty : Nat) : Int) == 0)
theorem dfree_any (w : World) (c : Cp) : Calls Try.prog 40 #[.agg c.cells] w fun r w' => r = .returned (.bool c.fre) ∧ Fr [] w w' := by
  unfold Cp.fre Cp.cells
  obtain ⟨cur, e, b, t, pm, ty, rs, v⟩ := c
  dsimp only
  cases v
  all_goals
    go_enter Try.func40, Try.ntmps40
    go_wp2_with fail
    go_ret
    exact ⟨by simp, (by repeat (first | exact Fr.refl _ _ | assumption | refine Fr.trans0 ?_ (by assumption) | refine Fr.drewN ?_ _ | refine Fr.alloc ?_ _ | refine Fr.drew ?_))⟩
theorem daddr1_any (w : World) (q1 q2 : Nat) (c : Cp) (h1 : w.cell? ⟨q1, 0, none⟩ = some (.func (.func 40) #[] #[])) (h2 : At w q2 25 c.cells) :
    Calls Try.prog 42 #[.pointer (some ⟨q1, 0, none⟩), .pointer (some ⟨q2, 0, none⟩)] w fun r w' => r = .returned (.bool c.fre) ∧ Fr [] w w' := by
  have C := Lib.hid fun W => dfree_any W c
  unfold Cp.cells at h2 C
  have k_0 := h2.cell 0
  have k_1 := h2.cell 1
  have k_2 := h2.cell 2
  have k_3 := h2.cell 3
  have k_4 := h2.cell 4
  have k_5 := h2.cell 5
  have k_6 := h2.cell 6
  have k_7 := h2.cell 7
  simp only [List.getElem?_toArray, List.getElem?_cons_zero, List.getElem?_cons_succ] at k_0 k_1 k_2 k_3 k_4 k_5 k_6 k_7
  clear h2
  go_enter Try.func42, Try.ntmps42
  go_wp2_with (go_at_call 40; refine (C.out _).mono ?_; rintro e w2 ⟨rfl, hf2⟩)
  go_ret
  exact ⟨rfl, hf2⟩
theorem daddr2_any (w : World) (q1 q2 n : Nat) (c : Cp) (hc : c.cur < 4294967296) (hn : n < 4294967296) (h1 : w.cell? ⟨q2, 0, none⟩ = some (.int .u32 n)) (h2 : At w q1 25 c.cells) :
    Calls Try.prog 43 #[.pointer (some ⟨q1, 0, none⟩), .pointer (some ⟨q2, 0, none⟩)] w fun r w' => r = .returned (.bool (keepB c.e c.b c.t c.cur n)) ∧ Fr [] w w' := by
  have C := Lib.hid fun W => keeps_any W c.e c.b c.t c.cur n hc hn
  unfold Cp.cells at h2
  have k_0 := h2.cell 0
  have k_1 := h2.cell 1
  have k_2 := h2.cell 2
  have k_3 := h2.cell 3
  have k_4 := h2.cell 4
  have k_5 := h2.cell 5
  have k_6 := h2.cell 6
  have k_7 := h2.cell 7
  simp only [List.getElem?_toArray, List.getElem?_cons_zero, List.getElem?_cons_succ] at k_0 k_1 k_2 k_3 k_4 k_5 k_6 k_7
  clear h2
  go_enter Try.func43, Try.ntmps43
  go_wp2_with (go_at_call 44; refine (C.out _).mono ?_; rintro e w2 ⟨rfl, hf2⟩)
  go_ret
  exact ⟨rfl, hf2⟩
/-- Closures that are asked one behind the other. -/
def Asks (w : World) (fs : List Value) (bs : List Bool) : Prop :=
  fs.length = bs.length ∧ ∀ (i : Nat) (v : Value) (b : Bool), fs[i]? = some v → bs[i]? = some b → ∃ (id : FuncId) (env : Array Value), v = Value.func (Fn.func id) #[] env ∧ (∀ args W, (callFunc id args).run Try.prog W = .ok (.enter id args) W) ∧ ∀ W, Fr [] w W → Calls Try.prog id env W fun r w' => r = .returned (.bool b) ∧ Fr [] W w'
def allT (bs : List Bool) (j : Nat) : Bool := (bs.take j).all id
theorem allT_succ (bs : List Bool) (j : Nat) (b : Bool) (h : bs[j]? = some b) : allT bs (j + 1) = (allT bs j && b) := by
  obtain ⟨hj, he⟩ := List.getElem?_eq_some_iff.1 h
  unfold allT
  rw [List.take_succ_eq_append_getElem hj, List.all_append, he]
  simp
set_option maxHeartbeats 1000000 in
theorem dmade_any (w : World) (c : Cp) (q n cap : Nat) (fs : List Value) (bs : List Bool) (hq : At w q 26 fs.toArray) (hA : Asks w fs bs) (hn : fs.length = n) (hnl : n ≤ 1000) :
    Calls Try.prog 41 #[.agg c.cells, .slice (some ⟨q, 0, none⟩) n cap] w fun r w' => r = .returned (.agg ({ c with v := allT bs n } : Cp).cells) ∧ Fr [] w w' := by
  unfold Cp.cells
  dsimp only
  have HQ := Lib.hid hq
  have HA := Lib.hid hA
  have HN := Lib.hid hn
  have hz : Hid (allT bs 0 = true) := Lib.hid rfl
  have HS := Lib.hid (allT_succ bs)
  obtain ⟨cur, e, b, t, pm, ty, rs, cv⟩ := c
  dsimp only
  have B0 := (At.new w 25 #[.int .u32 cur, .int .u8 e, .int .u16 b, .int .u16 t, .int .u16 pm, .int .u16 ty, .int .u32 rs, .bool true]).old (.cells noC.cells 25)
  have B1 := At.new (w.alloc (.cells #[.int .u32 cur, .int .u8 e, .int .u16 b, .int .u16 t, .int .u16 pm, .int .u16 ty, .int .u32 rs, .bool true] 25)) 25 noC.cells
  rw [World.size_alloc] at B1
  have F0 : Fr [] w ((w.alloc (.cells #[.int .u32 cur, .int .u8 e, .int .u16 b, .int .u16 t, .int .u16 pm, .int .u16 ty, .int .u32 rs, .bool true] 25)).alloc (.cells noC.cells 25)) := (by repeat (first | exact Fr.refl _ _ | assumption | refine Fr.trans0 ?_ (by assumption) | refine Fr.drewN ?_ _ | refine Fr.alloc ?_ _ | refine Fr.drew ?_))
  unfold noC Cp.cells at B0 B1 F0
  dsimp only [Int.cast_ofNat_Int] at B0 B1 F0
  have HB0 := Lib.hid B0
  have HB1 := Lib.hid B1
  have HF0 := Lib.hid F0
  have hql := hq.lt
  clear hq hA hn B0 B1 F0
  go_enter Try.func41, Try.ntmps41
  go_wp2_with fail
  go_loopw [10] (fun i wr => ∃ k : Nat, k ≤ n ∧ i = .int .i64 k ∧ At wr w.heap.size 25 #[.int .u32 cur, .int .u8 e, .int .u16 b, .int .u16 t, .int .u16 pm, .int .u16 ty, .int .u32 rs, .bool (allT bs k)] ∧ At wr (w.heap.size + 1) 25 #[.int .u32 0, .int .u8 0, .int .u16 0, .int .u16 0, .int .u16 0, .int .u16 0, .int .u32 0, .bool false] ∧ Fr [] w wr) (fun i _ => n - (intOf i).toNat)
  case atStart => exact ⟨0, by omega, rfl, by rw [hz.out]; exact HB0.out, HB1.out, HF0.out⟩
  case round =>
    clear HB0 HB1 HF0 hz
    obtain ⟨k, hk, rfl, h0, h1, hf⟩ := hrel
    have K0 := Lib.hid h0
    have K1 := Lib.hid h1
    have KF := Lib.hid hf
    have hws := hf.size
    have hl1 := h1.lt
    have c7 := h0.cell 7
    have z7 := h0.froz 7
    simp only [List.getElem?_toArray, List.getElem?_cons_zero, List.getElem?_cons_succ] at c7
    by_cases hkn : k < n
    · obtain ⟨v, hv⟩ : ∃ v, fs[k]? = some v := ⟨_, List.getElem?_eq_getElem (by have := HN.out; omega)⟩
      obtain ⟨b', hb⟩ : ∃ b, bs[k]? = some b := ⟨_, List.getElem?_eq_getElem (by have := HA.out.1; have := HN.out; omega)⟩
      obtain ⟨id, env, rfl, heg, hcall⟩ := HA.out.2 k v b' hv hb
      have HC := Lib.hid (hcall wr hf)
      have kq : wr.cell? ⟨q, k, none⟩ = some (Value.func (Fn.func id) #[] env) := ((HQ.out.fr hf (by simp)).cell k).trans (by rw [List.getElem?_toArray]; exact hv)
      have HT := Lib.hid (HS.out k b' hb)
      obtain ⟨x, hx⟩ : ∃ x, allT bs k = x := ⟨_, rfl⟩
      rw [hx] at c7 K0 HT
      clear hcall hv hb hx h0 h1 hf
      cases x
      · go_wp2_with fail
        go_roundw
        case rel =>
          refine ⟨k + 1, by omega, by go_num, ?_, K1.out.far (show w.heap.size + 1 ≠ w.heap.size by omega) _, KF.out.set (.inr (Nat.le_refl _)) _⟩
          rw [HT.out]
          exact K0.out.set 7 _
        case measure => simp [intOf]; omega
      · go_wp2_with fail
        refine (HC.out).mono ?_
        rintro e' w2 ⟨rfl, hf2⟩
        have L0 := Lib.hid (K0.out.fr hf2 (by simp))
        have L1 := Lib.hid (K1.out.fr hf2 (by simp))
        have LF := Lib.hid (KF.out.trans0 hf2)
        have d7 := L0.out.cell 7
        have y7 := L0.out.froz 7
        simp only [List.getElem?_toArray, List.getElem?_cons_zero, List.getElem?_cons_succ] at d7
        clear hf2
        go_wp2_with fail
        go_roundw
        case rel =>
          refine ⟨k + 1, by omega, by go_num, ?_, L1.out.far (show w.heap.size + 1 ≠ w.heap.size by omega) _, LF.out.set (.inr (Nat.le_refl _)) _⟩
          rw [HT.out, Bool.true_and]
          exact L0.out.set 7 _
        case measure => simp [intOf]; omega
    · obtain rfl : k = n := by omega
      have k_0 := h0.cell 0
      have k_1 := h0.cell 1
      have k_2 := h0.cell 2
      have k_3 := h0.cell 3
      have k_4 := h0.cell 4
      have k_5 := h0.cell 5
      have k_6 := h0.cell 6
      have k_7 := h0.cell 7
      simp only [List.getElem?_toArray, List.getElem?_cons_zero, List.getElem?_cons_succ] at k_0 k_1 k_2 k_3 k_4 k_5 k_6 k_7
      have j_0 := h1.cell 0
      have j_1 := h1.cell 1
      have j_2 := h1.cell 2
      have j_3 := h1.cell 3
      have j_4 := h1.cell 4
      have j_5 := h1.cell 5
      have j_6 := h1.cell 6
      have j_7 := h1.cell 7
      simp only [List.getElem?_toArray, List.getElem?_cons_zero, List.getElem?_cons_succ] at j_0 j_1 j_2 j_3 j_4 j_5 j_6 j_7
      have y_0 := h1.froz 0
      have y_1 := h1.froz 1
      have y_2 := h1.froz 2
      have y_3 := h1.froz 3
      have y_4 := h1.froz 4
      have y_5 := h1.froz 5
      have y_6 := h1.froz 6
      have y_7 := h1.froz 7
      have KR := ((((((((K1.out.set 0 (.int .u32 cur)).set 1 (.int .u8 e)).set 2 (.int .u16 b)).set 3 (.int .u16 t)).set 4 (.int .u16 pm)).set 5 (.int .u16 ty)).set 6 (.int .u32 rs)).set 7 (.bool (allT bs k)))
      simp only [List.setIfInBounds_toArray, List.set_cons_zero, List.set_cons_succ] at KR
      have HK := Lib.hid KR
      clear h0 h1 KR
      go_wp2_with fail
      have hq : w.heap.size ≤ w.heap.size + 1 := Nat.le_succ _
      refine bodyPost_ret (res_row rfl _ _ (w.heap.size + 1) 25 _ _ rfl HK.out Try.underlying25 rfl (by kernel_rfl)) rfl ⟨rfl, ((((((((KF.out.set (.inr hq) _).set (.inr hq) _).set (.inr hq) _).set (.inr hq) _).set (.inr hq) _).set (.inr hq) _).set (.inr hq) _).set (.inr hq) _)⟩
/-- A call's world under a name of its own. -/
theorem calls_named {P : Program} {f : FuncId} {args : Array Value} {W : World} {Q : Ending → World → Prop} (h : ∀ X, X = W → Calls P f args X Q) : Calls P f args W Q := h W rfl
theorem At.newq {w : World} {g : Nat} {t : TypeId} {cs : Array Value} (h : g = w.heap.size) : At (w.alloc (.cells cs t)) g t cs := by subst h; exact At.new w t cs
def Cp.addr (c : Cp) (n : Nat) : Cp := { c with cur := n, v := c.fre && keepB c.e c.b c.t c.cur n }
set_option maxHeartbeats 1000000 in
set_option maxRecDepth 100000 in
theorem daddr_any (w : World) (c : Cp) (n : Nat) (hc : c.cur < 4294967296) (hn : n < 4294967296) :
    Calls Try.prog 27 #[.agg c.cells, .int .u32 n] w fun r w' => r = .returned (.agg (c.addr n).cells) ∧ Fr [] w w' := by
  have HI := Lib.hid hc
  have g1 : ∀ args w, (callFunc 42 args).run Try.prog w = .ok (.enter 42 args) w := fun args w => by kernel_rfl
  have g2 : ∀ args w, (callFunc 43 args).run Try.prog w = .ok (.enter 43 args) w := fun args w => by kernel_rfl
  have G1 := Lib.hid g1
  have G2 := Lib.hid g2
  have CM := Lib.hid fun W q (v1 v2 : Value) hq (hA : Asks W [v1, v2] [c.fre, keepB c.e c.b c.t c.cur n]) => dmade_any W { c with cur := n } q 2 2 [v1, v2] _ hq hA rfl (by omega)
  have e0 : allT [c.fre, keepB c.e c.b c.t c.cur n] 2 = (c.fre && keepB c.e c.b c.t c.cur n) := by simp [allT]
  rw [e0] at CM
  clear e0 g1 g2 hc
  unfold Cp.addr
  unfold Cp.cells at CM ⊢
  dsimp only at CM ⊢
  go_enter Try.func27, Try.ntmps27
  go_wp2_with fail
  refine calls_named ?_
  intro X hX
  have A0 : At X w.heap.size 25 c.cells := by (rw [hX]; repeat (first | exact At.newq (by first | rfl | simp only [World.size_alloc]) | refine At.old ?_ _))
  have A1 : At X (w.heap.size + 1) 22 #[.int .u32 n] := by (rw [hX]; repeat (first | exact At.newq (by first | rfl | simp only [World.size_alloc]) | refine At.old ?_ _))
  have A2 : At X (w.heap.size + 1 + 1) 25 noC.cells := by (rw [hX]; repeat (first | exact At.newq (by first | rfl | simp only [World.size_alloc]) | refine At.old ?_ _))
  have A4 : At X (w.heap.size + 1 + 1 + 1 + 1) 87 #[.func (.func 40) #[] #[]] := by (rw [hX]; repeat (first | exact At.newq (by first | rfl | simp only [World.size_alloc]) | refine At.old ?_ _))
  have A5 : At X (w.heap.size + 1 + 1 + 1 + 1 + 1) 26 #[.func (.func 42) #[] #[.pointer (some ⟨w.heap.size + 1 + 1 + 1 + 1, 0, none⟩), .pointer (some ⟨w.heap.size, 0, none⟩)], .func (.func 43) #[] #[.pointer (some ⟨w.heap.size, 0, none⟩), .pointer (some ⟨w.heap.size + 1, 0, none⟩)]] := by (rw [hX]; repeat (first | exact At.newq (by first | rfl | simp only [World.size_alloc]) | refine At.old ?_ _))
  have FX : Fr [] w X := by rw [hX]; exact (by repeat (first | exact Fr.refl _ _ | assumption | refine Fr.trans0 ?_ (by assumption) | refine Fr.drewN ?_ _ | refine Fr.alloc ?_ _ | refine Fr.drew ?_))
  have HA : Asks X [.func (.func 42) #[] #[.pointer (some ⟨w.heap.size + 1 + 1 + 1 + 1, 0, none⟩), .pointer (some ⟨w.heap.size, 0, none⟩)], .func (.func 43) #[] #[.pointer (some ⟨w.heap.size, 0, none⟩), .pointer (some ⟨w.heap.size + 1, 0, none⟩)]] [c.fre, keepB c.e c.b c.t c.cur n] := by
    refine ⟨rfl, fun i v b hv hb => ?_⟩
    match i, hv, hb with
    | 0, hv, hb =>
      simp at hv hb
      subst hv hb
      exact ⟨_, _, rfl, G1.out, fun W hW => daddr1_any W _ _ c ((A4.fr hW (by simp)).cell 0) (A0.fr hW (by simp))⟩
    | 1, hv, hb =>
      simp at hv hb
      subst hv hb
      exact ⟨_, _, rfl, G2.out, fun W hW => daddr2_any W _ _ n c HI.out hn ((A1.fr hW (by simp)).cell 0) (A0.fr hW (by simp))⟩
    | i + 2, hv, hb => simp at hv
  refine (CM.out X _ _ _ A5 HA).mono ?_
  rintro e w2 ⟨rfl, hf2⟩
  have HA2 := A2.fr hf2 (by simp)
  have F2 := Lib.hid (FX.trans0 hf2)
  unfold noC Cp.cells at HA2
  dsimp only [Int.cast_ofNat_Int] at HA2
  have j_0 := HA2.cell 0
  have j_1 := HA2.cell 1
  have j_2 := HA2.cell 2
  have j_3 := HA2.cell 3
  have j_4 := HA2.cell 4
  have j_5 := HA2.cell 5
  have j_6 := HA2.cell 6
  have j_7 := HA2.cell 7
  simp only [List.getElem?_toArray, List.getElem?_cons_zero, List.getElem?_cons_succ] at j_0 j_1 j_2 j_3 j_4 j_5 j_6 j_7
  have y_0 := HA2.froz 0
  have y_1 := HA2.froz 1
  have y_2 := HA2.froz 2
  have y_3 := HA2.froz 3
  have y_4 := HA2.froz 4
  have y_5 := HA2.froz 5
  have y_6 := HA2.froz 6
  have y_7 := HA2.froz 7
  obtain ⟨k, hk⟩ : ∃ k, (c.fre && keepB c.e c.b c.t c.cur n) = k := ⟨_, rfl⟩
  rw [hk]
  have HKk := Lib.hid hk
  have KR := ((((((((HA2.set 0 (.int .u32 n)).set 1 (.int .u8 c.e)).set 2 (.int .u16 c.b)).set 3 (.int .u16 c.t)).set 4 (.int .u16 c.pm)).set 5 (.int .u16 c.ty)).set 6 (.int .u32 c.rs)).set 7 (.bool k))
  simp only [List.setIfInBounds_toArray, List.set_cons_zero, List.set_cons_succ] at KR
  have HK := Lib.hid KR
  clear hX A0 A1 A2 A4 A5 FX HA CM hf2 HA2 KR hk
  obtain ⟨B, hB⟩ : ∃ B, w.heap.size + 1 + 1 = B := ⟨_, rfl⟩
  have hq : w.heap.size ≤ B := by omega
  rw [hB] at HK y_0 y_1 y_2 y_3 y_4 y_5 y_6 y_7 j_0 j_1 j_2 j_3 j_4 j_5 j_6 j_7 ⊢
  go_wp2_with fail
  refine bodyPost_ret (res_row rfl _ _ B 25 _ _ rfl HK.out Try.underlying25 rfl (by kernel_rfl)) rfl ⟨by rw [HKk.out], ((((((((F2.out.set (.inr hq) _).set (.inr hq) _).set (.inr hq) _).set (.inr hq) _).set (.inr hq) _).set (.inr hq) _).set (.inr hq) _).set (.inr hq) _)⟩
end Go.Proofs.Ytdfefnajhnlpdaa
