/-
  A paint's region is painted or taken away: what change computes. Condition: at most 16384 granules.
-/
import Derived.Deep.RegionHeld3
import Derived.Deep.CutBlock
import Derived.Deep.DeepCutAuto
import Derived.Test.YthjbnbimfpbccaaGreatDoorJ3



set_option linter.unusedVariables false
namespace Go.Proofs.YthjbnbimfpbccaaGreatDoor
open Go.ChangeShapes Go.WideShapes Go.ChangeAt Go.RowKit
attribute [local go_sem] Oper.semAt_some
theorem Tg.atK {W W' : World} {p g n : Nat} {f : Nat → Bool} (h : Tg W p g n f) (k : AtK W W') : Tg W' p g n f := by
  obtain ⟨h1, h2, h3, c, cs, h4, h5, h6, h7⟩ := h
  exact ⟨h1, h2, h3, c, cs, h4, k _ _ _ h5, k _ _ _ h6, h7⟩
theorem Pt.atK {W W' : World} {pp p g n : Nat} {f : Nat → Bool} (h : Pt W pp p g n f) (k : AtK W W') : Pt W' pp p g n f := ⟨k _ _ _ h.1, h.2.1.atK k, h.2.2⟩
theorem Tg.atg {w : World} {p g n : Nat} {f : Nat → Bool} (h : Tg w p g n f) : ∃ t cs, At w g t cs := by
  obtain ⟨h1, h2, h3, c, cs, h4, h5, h6, h7⟩ := h
  exact ⟨_, _, h6⟩
/-- A granule of a region. -/
abbrev Gr (A R : Nat) := { x : Nat // A ≤ x ∧ x < A + R }
def AllG (A R : Nat) (xs : List (Gr A R)) : Prop := ∀ i, A ≤ i → i < A + R → ∃ y ∈ xs, y.1 = i
theorem gran_stops (n A R q : Nat) (hA : A + R ≤ 16777216) (w : World) (hq : At w q 45 #[.int .u32 (16 * A : Nat), .int .u32 (16 * R : Nat)]) :
    SeqStopsK Fence.wide n Tryz.prog 157 #[.pointer (some ⟨q, 0, none⟩)] (fun x : Gr A R => #[.int .i64 (x.1 : Nat)]) (KpAt q) (AllG A R) (fun _ => True) R w := fun l J Jx W hb hJ hJx hY h0 => by
  have hqW : At W q 45 #[.int .u32 (16 * A : Nat), .int .u32 (16 * R : Nat)] := (hb.block q hq.lt).trans hq
  have Hq := Lib.hid hqW
  have c0 := hqW.cell 0
  have c1 := hqW.cell 1
  simp only [List.getElem?_toArray, List.getElem?_cons_zero, List.getElem?_cons_succ] at c0 c1
  have HY := Lib.hid hY
  clear hq hb hqW hY
  refine callsIn_of_wp Tryz.func157 rfl trivial ?_ rfl
  simp only [Tryz.ntmps157, List.size_toArray, List.length_cons, List.length_nil, Nat.reduceAdd, Nat.reduceSub, Array.replicate_succ, Array.replicate_zero, List.push_toArray, List.append_toArray, List.nil_append, List.cons_append]
  gi_wp2
  gi_loopw [3] (fun v wr => ∃ pre : List (Gr A R), pre.length ≤ R ∧ v = .int .u64 ((16 * (A + pre.length) : Nat) : Int) ∧ (∀ i, A ≤ i → i < A + pre.length → ∃ y ∈ pre, y.1 = i) ∧ J pre wr ∧ At wr q 45 #[.int .u32 (16 * A : Nat), .int .u32 (16 * R : Nat)]) (fun v _ => 16 * (A + R) - (intOf v).toNat)
  case atStart => exact ⟨[], by simp, by simp, fun i h1 h2 => by simp at h2; omega, h0, Hq.out⟩
  case round =>
    obtain ⟨pre, hpl, rfl, hall, hj, hqr⟩ := hrel
    have c0 := hqr.cell 0
    have c1 := hqr.cell 1
    simp only [List.getElem?_toArray, List.getElem?_cons_zero, List.getElem?_cons_succ] at c0 c1
    have HA := Lib.hid hall
    have HQ := Lib.hid hqr
    clear hall hqr
    by_cases hlt : pre.length < R
    · obtain ⟨fn, tmps, assign, body, hy, hR⟩ := HY.out pre ⟨A + pre.length, by omega, by omega⟩ wr hj hlt
      dsimp only at hy
      have HR := Lib.hid hR
      clear hR hj
      obtain ⟨c, hc⟩ : ∃ c, A + pre.length = c := ⟨_, rfl⟩
      rw [hc] at hy ⊢
      have hc16 : ((16 * c : Nat) : Int) / 16 = c := by omega
      have hc17 : ((16 * c : Nat) : Int) + 16 = ((16 * (c + 1) : Nat) : Int) := by omega
      have hlt2 : ((16 * c : Nat) : Int) < ((16 * A : Nat) : Int) + ((16 * R : Nat) : Int) := by omega
      have hcb : c ≤ 16777216 := by omega
      have HC := Lib.hid hc
      clear hc
      gi_wp2
      refine ⟨fun h => (by cases h), HR.out.mono ?_⟩
      rintro e W3 (⟨rfl, hJ3, hk3⟩ | ⟨rfl, hJx3⟩)
      · have hq3 := hk3 _ _ HQ.out
        gi_wp2
        go_roundw
        case rel =>
          refine ⟨pre ++ [⟨A + pre.length, by omega, by omega⟩], by simp; omega, by congr 1; simp; have := HC.out; omega, fun i h1 h2 => ?_, hJ3, hq3⟩
          by_cases e : i < A + pre.length
          · obtain ⟨y, hy, he⟩ := HA.out i h1 e
            exact ⟨y, by simp [hy], he⟩
          · exact ⟨⟨A + pre.length, by omega, by omega⟩, by simp, by simp at h2 ⊢; omega⟩
        case measure => simp [intOf]; omega
      · gi_wp2
        refine bodyPost_ret (results_none rfl _ _ _) rfl ?_
        exact ⟨⟨_, rfl⟩, .inr ⟨_, trivial, hJx3⟩⟩
    · gi_wp2
      go_end0
      exact ⟨⟨_, rfl⟩, .inl ⟨pre, fun i h1 h2 => HA.out i h1 (by omega), hj⟩⟩
theorem ptchg_nil (w : World) (a s : Int) (tb : Bool) :
    Calls Tryz.prog 133 #[.pointer none, .agg #[.int .u32 a, .int .u32 s], .bool tb] w fun r w' => r = .returned (.bool false) ∧ Fr [] w w' := by
  go_enter Tryz.func133, Tryz.ntmps133
  go_wp2_with (go_at_call 125; refine (ptnone_nil _).mono ?_; rintro e w' ⟨rfl, rfl⟩)
  refine bodyPost_ret (v := .bool false) (by simp [results, Tryz.results133, go_sem]) rfl ⟨rfl, ?_⟩
  exact (by repeat (first | exact Fr.refl _ _ | assumption | refine Fr.trans0 ?_ (by assumption) | refine Fr.drewN ?_ _ | refine Fr.alloc ?_ _ | refine Fr.drew ?_))
theorem chg_test (n : Nat) (a s : Int) (hn : n ≤ 16384) (ha : 0 ≤ a) (hs : 0 ≤ s) :
    allB [(a.tmod 16 == 0), (s.tmod 16 == 0), decide (0 < s), decide (a + s ≤ IntKind.u64.wrap (IntKind.u64.wrap (n : Int) * 16))] = decide (a % 16 = 0 ∧ s % 16 = 0 ∧ 0 < s ∧ a + s ≤ 16 * n) := by
  have h1 : IntKind.u64.wrap (n : Int) = n := wrap_nat n (by omega)
  have h2 : IntKind.u64.wrap ((n : Int) * 16) = n * 16 := wrap_nat (n * 16) (by omega)
  rw [h1, h2, Int.tmod_eq_emod_of_nonneg ha, Int.tmod_eq_emod_of_nonneg hs, Bool.eq_iff_iff]
  simp [allB]
  omega
/-- What the function's own boxes hold. -/
def Boxes (w : World) (pp p : Nat) (a s : Int) (tb r : Bool) (W : World) : Prop :=
  At W w.heap.size 103 #[.pointer (some ⟨pp, 0, none⟩)] ∧ At W (w.heap.size + 1) 45 #[.int .u32 a, .int .u32 s] ∧ At W (w.heap.size + 1 + 1) 4 #[.bool tb] ∧ At W (w.heap.size + 1 + 1 + 1) 4 #[.bool r] ∧ At W pp 204 #[.pointer (some ⟨p, 0, none⟩)]
theorem boxes_start (w : World) (pp p : Nat) (a s : Int) (tb : Bool) (h : At w pp 204 #[.pointer (some ⟨p, 0, none⟩)]) : Boxes w pp p a s tb false ((((w.alloc (.cells #[.pointer (some ⟨pp, 0, none⟩)] 103)).alloc (.cells #[.int .u32 a, .int .u32 s] 45)).alloc (.cells #[.bool tb] 4)).alloc (.cells #[.bool false] 4)) := by
  have b0 := At.new w 103 #[.pointer (some ⟨pp, 0, none⟩)]
  have b1 := At.new (w.alloc (.cells #[.pointer (some ⟨pp, 0, none⟩)] 103)) 45 #[.int .u32 a, .int .u32 s]
  have b2 := At.new ((w.alloc (.cells #[.pointer (some ⟨pp, 0, none⟩)] 103)).alloc (.cells #[.int .u32 a, .int .u32 s] 45)) 4 #[.bool tb]
  have b3 := At.new (((w.alloc (.cells #[.pointer (some ⟨pp, 0, none⟩)] 103)).alloc (.cells #[.int .u32 a, .int .u32 s] 45)).alloc (.cells #[.bool tb] 4)) 4 #[.bool false]
  simp only [World.size_alloc] at b1 b2 b3
  exact ⟨((b0.old _).old _).old _, (b1.old _).old _, b2.old _, b3, (((h.old _).old _).old _).old _⟩
theorem Boxes.fr {w W V : World} {pp p : Nat} {a s : Int} {tb r : Bool} {S : List Nat} (h : Boxes w pp p a s tb r W) (f : Fr S W V) (hpp : pp ∉ S) (hz : ∀ k ∈ S, k < w.heap.size) : Boxes w pp p a s tb r V :=
  ⟨h.1.fr f (fun x => by have := hz _ x; omega), h.2.1.fr f (fun x => by have := hz _ x; omega), h.2.2.1.fr f (fun x => by have := hz _ x; omega), h.2.2.2.1.fr f (fun x => by have := hz _ x; omega), h.2.2.2.2.fr f hpp⟩
theorem Boxes.setr {w W : World} {pp p : Nat} {a s : Int} {tb r : Bool} (h : Boxes w pp p a s tb r W) (r' : Bool) (hpp : pp < w.heap.size) : Boxes w pp p a s tb r' (W.setCell ⟨w.heap.size + 1 + 1 + 1, 0, none⟩ (.bool r')) :=
  ⟨h.1.far (show w.heap.size ≠ w.heap.size + 1 + 1 + 1 by omega) _, h.2.1.far (show w.heap.size + 1 ≠ w.heap.size + 1 + 1 + 1 by omega) _, h.2.2.1.far (show w.heap.size + 1 + 1 ≠ w.heap.size + 1 + 1 + 1 by omega) _, h.2.2.2.1.set 0 (.bool r'), h.2.2.2.2.far (show pp ≠ w.heap.size + 1 + 1 + 1 by omega) _⟩
theorem Boxes.cells {w W : World} {pp p : Nat} {a s : Int} {tb r : Bool} (h : Boxes w pp p a s tb r W) :
    (W.cell? ⟨pp, 0, none⟩ = some (.pointer (some ⟨p, 0, none⟩)) ∧ W.cell? ⟨w.heap.size, 0, none⟩ = some (.pointer (some ⟨pp, 0, none⟩))) ∧ W.cell? ⟨w.heap.size + 1, 0, none⟩ = some (.int .u32 a) ∧ W.cell? ⟨w.heap.size + 1, 1, none⟩ = some (.int .u32 s) :=
  ⟨⟨h.2.2.2.2.cell 0, h.1.cell 0⟩, h.2.1.cell 0, h.2.1.cell 1⟩
theorem Boxes.rest {w W : World} {pp p : Nat} {a s : Int} {tb r : Bool} (h : Boxes w pp p a s tb r W) :
    W.cell? ⟨w.heap.size + 1 + 1, 0, none⟩ = some (.bool tb) ∧ W.cell? ⟨w.heap.size + 1 + 1 + 1, 0, none⟩ = some (.bool r) ∧ W.frozen? ⟨w.heap.size + 1 + 1 + 1, 0, none⟩ = false :=
  ⟨h.2.2.1.cell 0, h.2.2.2.1.cell 0, h.2.2.2.1.froz 0⟩
theorem ptchg_bad (w : World) (pp p g n : Nat) (f : Nat → Bool) (h : Pt w pp p g n f) (a s : Int) (tb : Bool) (ha : 0 ≤ a) (ha2 : a ≤ 4294967295) (hs : 0 ≤ s) (hs2 : s ≤ 4294967295) (hb : ¬ (a % 16 = 0 ∧ s % 16 = 0 ∧ 0 < s ∧ a + s ≤ 16 * n)) :
    Calls Tryz.prog 133 #[.pointer (some ⟨pp, 0, none⟩), .agg #[.int .u32 a, .int .u32 s], .bool tb] w fun r w' => r = .returned (.bool false) ∧ Fr [] w w' := by
  have hn := h.2.2.2.2
  have H := Lib.hid h
  have HB := Lib.hid hb
  have BS := Lib.hid (boxes_start w pp p a s tb h.1)
  have hf0 : Hid (Fr [] w ((((w.alloc (.cells #[.pointer (some ⟨pp, 0, none⟩)] 103)).alloc (.cells #[.int .u32 a, .int .u32 s] 45)).alloc (.cells #[.bool tb] 4)).alloc (.cells #[.bool false] 4))) := Lib.hid (by repeat (first | exact Fr.refl _ _ | assumption | refine Fr.trans0 ?_ (by assumption) | refine Fr.drewN ?_ _ | refine Fr.alloc ?_ _ | refine Fr.drew ?_))
  clear h hb
  go_enter Tryz.func133, Tryz.ntmps133
  go_wp2_with (go_at_call 125; refine (ptnone_any _ pp p g n f (H.out.fr hf0.out (by simp) (by simp) (by simp))).mono ?_; rintro e w' ⟨rfl, rfl⟩)
  obtain ⟨W, hW⟩ : ∃ W, (((w.alloc (.cells #[.pointer (some ⟨pp, 0, none⟩)] 103)).alloc (.cells #[.int .u32 a, .int .u32 s] 45)).alloc (.cells #[.bool tb] 4)).alloc (.cells #[.bool false] 4) = W := ⟨_, rfl⟩
  rw [hW] at BS hf0 ⊢
  have hL := Lib.hid fun (V : World) (hV : V.heap = W.heap) => len_any V p g n f ((H.out.fr hf0.out (by simp) (by simp) (by simp)).heap hV).2.1
  have d0 := BS.out.cells
  have hAll : Hid (allB [(a.tmod 16 == 0), (s.tmod 16 == 0), decide (0 < s), decide (a + s ≤ IntKind.u64.wrap (IntKind.u64.wrap (n : Int) * 16))] = false) := Lib.hid (by
    rw [chg_test n a s hn ha hs]
    exact decide_eq_false HB.out)
  clear hW
  go_region_held3 (fun w' => (w'.cell? ⟨pp, 0, none⟩ = some (.pointer (some ⟨p, 0, none⟩)) ∧ w'.cell? ⟨w.heap.size, 0, none⟩ = some (.pointer (some ⟨pp, 0, none⟩))) ∧ w'.cell? ⟨w.heap.size + 1, 0, none⟩ = some (.int .u32 a) ∧ w'.cell? ⟨w.heap.size + 1, 1, none⟩ = some (.int .u32 s)) (first | exact d0 | exact d6 | go_keep) (first | (go_at_call 95; refine Calls.mono (hL.out _ (by rfl)) ?_; rintro e w5 ⟨rfl, rfl⟩) | (go_at_call 148; refine Calls.mono (all_any _ _ [(a.tmod 16 == 0), (s.tmod 16 == 0), decide (0 < s), decide (a + s ≤ IntKind.u64.wrap (IntKind.u64.wrap (n : Int) * 16))] ((At.new _ _ _).hp (by rfl)) (by simp)) ?_; rw [hAll.out]; rintro e w6 ⟨rfl, h6⟩; have hf6 : Fr [] W w6 := (by rw [← h6]; exact ((Fr.refl _ _).alloc _).drew); have B6 := Lib.hid (BS.out.fr hf6 (by simp) (by simp)); have d6 := B6.out.cells; clear h6))
  have r6 := B6.out.rest
  obtain ⟨r6, r7, r8⟩ := r6
  go_wp2
  refine bodyPost_ret (v := .bool false) (by simp [results, Tryz.results133, go_sem, r7]) rfl ⟨rfl, ?_⟩
  exact ((hf0.out.trans0 hf6).set (.inr (by show w.heap.size ≤ w.heap.size + 1 + 1 + 1; omega)) _)
theorem Boxes.atK {w W V : World} {pp p : Nat} {a s : Int} {tb r : Bool} (h : Boxes w pp p a s tb r W) (k : AtK W V) : Boxes w pp p a s tb r V :=
  ⟨k _ _ _ h.1, k _ _ _ h.2.1, k _ _ _ h.2.2.1, k _ _ _ h.2.2.2.1, k _ _ _ h.2.2.2.2⟩
def okP (f : Nat → Bool) (A R : Nat) (tb : Bool) : Bool := (List.range R).all fun i => f (A + i) != tb
theorem okP_yes {f : Nat → Bool} {A R : Nat} {tb : Bool} (h : ∀ i, A ≤ i → i < A + R → f i ≠ tb) : okP f A R tb = true := by
  unfold okP
  rw [List.all_eq_true]
  intro i hi
  have := h (A + i) (by omega) (by simp at hi; omega)
  simpa using this
theorem okP_no {f : Nat → Bool} {A R : Nat} {tb : Bool} {i : Nat} (h1 : A ≤ i) (h2 : i < A + R) (h : f i = tb) : okP f A R tb = false := by
  cases e : okP f A R tb with
  | false => rfl
  | true =>
    unfold okP at e
    rw [List.all_eq_true] at e
    have := e (i - A) (by simp; omega)
    rw [show A + (i - A) = i by omega, h] at this
    simp at this
def setP (f : Nat → Bool) (A R : Nat) (tb : Bool) : Nat → Bool := fun i => if A ≤ i ∧ i < A + R then tb else f i
def setL (f : Nat → Bool) (l : List Nat) (tb : Bool) : Nat → Bool := fun i => if i ∈ l then tb else f i
theorem setL_nil (f : Nat → Bool) (tb : Bool) : setL f [] tb = f := funext fun i => by simp [setL]
theorem setL_snoc (f : Nat → Bool) (l : List Nat) (x : Nat) (tb : Bool) : upd (setL f l tb) x tb = setL f (l ++ [x]) tb := funext fun i => by
  unfold upd setL
  by_cases e : i = x
  · subst e; simp
  · simp [e]
def valsG {A R : Nat} (l : List (Gr A R)) : List Nat := l.map fun y => y.1
theorem valsG_snoc {A R : Nat} (l : List (Gr A R)) (x : Gr A R) : valsG (l ++ [x]) = valsG l ++ [x.1] := by simp [valsG]
theorem setL_all (f : Nat → Bool) (A R : Nat) (xs : List (Gr A R)) (tb : Bool) (h : AllG A R xs) : setL f (valsG xs) tb = setP f A R tb := funext fun i => by
  unfold setL setP
  by_cases e : A ≤ i ∧ i < A + R
  · obtain ⟨y, hy, he⟩ := h i e.1 e.2
    rw [if_pos e, if_pos (show i ∈ valsG xs from List.mem_map.2 ⟨y, hy, he⟩)]
  · rw [if_neg e, if_neg]
    intro hm
    obtain ⟨y, _, he⟩ := List.mem_map.1 hm
    have := y.2
    omega
def chgF (f : Nat → Bool) (A R : Nat) (tb : Bool) : Nat → Bool := if okP f A R tb = true then setP f A R tb else f
set_option maxHeartbeats 2000000 in
set_option maxRecDepth 100000 in
theorem ptchg_ok (w : World) (pp p g n : Nat) (f : Nat → Bool) (h : Pt w pp p g n f) (A R : Nat) (tb : Bool) (hR : 1 ≤ R) (hAR : A + R ≤ n) :
    Calls Tryz.prog 133 #[.pointer (some ⟨pp, 0, none⟩), .agg #[.int .u32 (16 * A : Nat), .int .u32 (16 * R : Nat)], .bool tb] w fun r w' => r = .returned (.bool (okP f A R tb)) ∧ Tg w' p g n (chgF f A R tb) ∧ Fr [g] w w' := by
  have hn := h.2.2.2.2
  obtain ⟨a, ha⟩ : ∃ a : Int, ((16 * A : Nat) : Int) = a := ⟨_, rfl⟩
  obtain ⟨s, hs⟩ : ∃ s : Int, ((16 * R : Nat) : Int) = s := ⟨_, rfl⟩
  rw [ha, hs]
  have H := Lib.hid h
  have BS := Lib.hid (boxes_start w pp p a s tb h.1)
  have hf0 : Hid (Fr [] w ((((w.alloc (.cells #[.pointer (some ⟨pp, 0, none⟩)] 103)).alloc (.cells #[.int .u32 a, .int .u32 s] 45)).alloc (.cells #[.bool tb] 4)).alloc (.cells #[.bool false] 4))) := Lib.hid (by repeat (first | exact Fr.refl _ _ | assumption | refine Fr.trans0 ?_ (by assumption) | refine Fr.drewN ?_ _ | refine Fr.alloc ?_ _ | refine Fr.drew ?_))
  have hAll : Hid (allB [(a.tmod 16 == 0), (s.tmod 16 == 0), decide (0 < s), decide (a + s ≤ IntKind.u64.wrap (IntKind.u64.wrap (n : Int) * 16))] = true) := Lib.hid (by
    rw [chg_test n a s hn (by omega) (by omega)]
    exact decide_eq_true (by omega))
  have hasz : 0 ≤ a ∧ a ≤ 262144 ∧ 0 ≤ s ∧ s ≤ 262144 := by omega
  obtain ⟨ha1, ha2, hs1, hs2⟩ := hasz
  have HA := Lib.hid ha
  have HSS := Lib.hid hs
  clear h ha hs
  refine (callsIn_wide (n := 3)).1 ?_
  refine callsIn_of_wp_marks Tryz.func133 rfl trivial ?_ rfl
  simp only [Tryz.ntmps133, List.size_toArray, List.length_cons, List.length_nil, Nat.reduceAdd, Nat.reduceSub, Array.replicate_succ, Array.replicate_zero, List.push_toArray, List.append_toArray, List.nil_append, List.cons_append]
  refine wpIn_wide.2 ?_
  go_wp2_with (go_at_call 125; refine (ptnone_any _ pp p g n f (H.out.fr hf0.out (by simp) (by simp) (by simp))).mono ?_; rintro e w' ⟨rfl, rfl⟩)
  obtain ⟨W, hW⟩ : ∃ W, (((w.alloc (.cells #[.pointer (some ⟨pp, 0, none⟩)] 103)).alloc (.cells #[.int .u32 a, .int .u32 s] 45)).alloc (.cells #[.bool tb] 4)).alloc (.cells #[.bool false] 4) = W := ⟨_, rfl⟩
  rw [hW] at BS hf0 ⊢
  have hL := Lib.hid fun (V : World) (hV : V.heap = W.heap) => len_any V p g n f ((H.out.fr hf0.out (by simp) (by simp) (by simp)).heap hV).2.1
  have d0 := BS.out.cells
  clear hW
  go_region_held3 (fun w' => (w'.cell? ⟨pp, 0, none⟩ = some (.pointer (some ⟨p, 0, none⟩)) ∧ w'.cell? ⟨w.heap.size, 0, none⟩ = some (.pointer (some ⟨pp, 0, none⟩))) ∧ w'.cell? ⟨w.heap.size + 1, 0, none⟩ = some (.int .u32 a) ∧ w'.cell? ⟨w.heap.size + 1, 1, none⟩ = some (.int .u32 s)) (first | exact d0 | exact d6 | go_keep) (first | (go_at_call 95; refine Calls.mono (hL.out _ (by rfl)) ?_; rintro e w5 ⟨rfl, rfl⟩) | (go_at_call 148; refine Calls.mono (all_any _ _ [(a.tmod 16 == 0), (s.tmod 16 == 0), decide (0 < s), decide (a + s ≤ IntKind.u64.wrap (IntKind.u64.wrap (n : Int) * 16))] ((At.new _ _ _).hp (by rfl)) (by simp)) ?_; rw [hAll.out]; rintro e w6 ⟨rfl, h6⟩; have hf6 : Fr [] W w6 := (by rw [← h6]; exact ((Fr.refl _ _).alloc _).drew); have B6 := Lib.hid (BS.out.fr hf6 (by simp) (by simp)); have d6 := B6.out.cells; clear h6))
  have HF6 := Lib.hid (hf0.out.trans0 hf6)
  clear hf6 d0 d6 hL
  have d6 := B6.out.cells
  go_wp2_with (go_at_call 149; refine (gran_any _ _ _).mono ?_; rintro e w7 ⟨rfl, h7⟩)
  subst h7
  have hq1 := At.new w6 45 #[.int .u32 a, .int .u32 s]
  have B7 := Lib.hid (B6.out.fr (S := []) ((Fr.refl _ _).alloc (.cells #[.int .u32 a, .int .u32 s] 45)) (by simp) (by simp))
  have HF7 := Lib.hid (HF6.out.alloc (.cells #[.int .u32 a, .int .u32 s] 45))
  have hws := HF6.out.size
  have HP7 := Lib.hid (H.out.fr HF7.out (by simp) (by simp) (by simp))
  obtain ⟨q, hq⟩ : ∃ q, w6.heap.size = q := ⟨_, rfl⟩
  obtain ⟨W1, hW1⟩ : ∃ W1, w6.alloc (.cells #[.int .u32 a, .int .u32 s] 45) = W1 := ⟨_, rfl⟩
  have hsz1 : W1.heap.size = q + 1 := by rw [← hW1, ← hq]; simp
  rw [hW1, hq] at hq1
  rw [hW1] at B7 HF7 HP7
  rw [hq] at hws
  rw [hW1, hq]
  have HQ1 := Lib.hid hq1
  rw [← HA.out, ← HSS.out] at hq1
  have HS1 := Lib.hid hsz1
  have hqp := H.out.lt
  clear hW1 hq hsz1 B6 d6 HF6 hws BS hAll hf0
  refine (wpIn_wide (n := 3)).1 ?_
  refine wpIn_rangeFunc_ownF rfl (by omega) (gf := 157) (lb := #[.pointer (some ⟨q, 0, none⟩)]) rfl trivial (enters_of Tryz.func157 (by kernel_rfl) rfl) (gran_stops _ A R q (by omega) _ hq1) kpAt_t kpAt_b (Below.refl _ _) (fun _ => rfl)
    (fun pre V => (∀ y ∈ pre, f y.1 ≠ tb) ∧ Boxes w pp p a s tb false V ∧ Pt V pp p g n f ∧ Fr [] w V)
    (fun c pre V => c = .ret ∧ (∃ y ∈ pre, f y.1 = tb) ∧ Boxes w pp p a s tb false V ∧ Pt V pp p g n f ∧ Fr [] w V)
    (fun x A B row hs hg hr => ⟨hs.1, hs.2.1.atK (atK_grown hg fun r e => (hr r e).2), hs.2.2.1.atK (atK_grown hg fun r e => (hr r e).2), hs.2.2.2.row hg HF7.out.size hr⟩)
    (fun c x A B row hs hg hr => ⟨hs.1, hs.2.1, hs.2.2.1.atK (atK_grown hg fun r e => (hr r e).2), hs.2.2.2.1.atK (atK_grown hg fun r e => (hr r e).2), hs.2.2.2.2.row hg HF7.out.size hr⟩)
    ⟨by simp, B7.out, HP7.out, HF7.out⟩ ?a1 ?assign ?body ?done ?stop
  case assign =>
    intro l x V K hK
    gi_wp2
    exact hK
  case body =>
    rintro l pre x V ⟨hne, hB, hP, hF⟩ _
    have HN := Lib.hid hne
    have HBx := Lib.hid hB
    have HPx := Lib.hid hP
    have d0 := hB.cells
    have d1 := hB.rest
    obtain ⟨d1, d2, d3⟩ := d1
    have hxn : x.1 < n := by have := x.2; omega
    have C := Lib.hid fun (U : World) (hU : U.heap = V.heap) => get_any U p g n f (HPx.out.heap hU).2.1 (x.1 : Nat)
    rw [inR_nat _ _ hxn, Int.toNat_natCast, Bool.true_and] at C
    have hVs := HPx.out.lt
    clear hne hB hP
    cases hfx : (f x.1 == tb)
    · have HX := Lib.hid (show f x.1 ≠ tb by simpa using hfx)
      clear hxn
      obtain ⟨b, hb⟩ : ∃ b, f x.1 = b := ⟨_, rfl⟩
      rw [hb] at C hfx
      clear hb
      gi_wp2
      refine wpIn_round_quiet (fun ⟨_, _, h⟩ => h) (by kernel_rfl) (by kernel_rfl) (by kernel_rfl) ?_; (repeat (quiet_step ((go_at_call 67; exact q_same (C.out _ (by rfl)))))); refine wpQuiet_nil ?_; intro _ hw'; obtain ⟨nq, hw''⟩ := hw'; subst hw''
      gi_wp2
      have hfd : Fr [] V (V.drewN nq) := (Fr.refl _ _).drewN _
      refine ⟨hfd.keepsFrom (by simp), kpAt_fr hfd (by simp), fun y hy => ?_, HBx.out.fr hfd (by simp) (by simp), HPx.out.fr hfd (by simp) (by simp) (by simp), hF.drewN _⟩
      rcases List.mem_append.1 hy with h | h
      · exact HN.out y h
      · simp at h; subst h; exact HX.out
    · have HX := Lib.hid (show f x.1 = tb by simpa using hfx)
      clear hxn
      obtain ⟨b, hb⟩ : ∃ b, f x.1 = b := ⟨_, rfl⟩
      rw [hb] at C hfx
      clear hb
      gi_wp2
      refine wpIn_round_quiet (fun ⟨_, _, h⟩ => h) (by kernel_rfl) (by kernel_rfl) (by kernel_rfl) ?_; (repeat (quiet_step ((go_at_call 67; exact q_same (C.out _ (by rfl)))))); refine wpQuiet_nil ?_; intro _ hw'; obtain ⟨nq, hw''⟩ := hw'; subst hw''
      gi_wp2
      have hfd : Fr [] V (V.drewN nq) := (Fr.refl _ _).drewN _
      have hBd := HBx.out.fr hfd (by simp) (by simp)
      have hfs : Fr [w.heap.size + 1 + 1 + 1] V ((V.drewN nq).setCell ⟨w.heap.size + 1 + 1 + 1, 0, none⟩ (.bool false)) := ((Fr.refl _ _).drewN _).set (.inl (by simp)) _
      refine ⟨hfs.keepsFrom (by simp; exact ⟨_, _, HBx.out.2.2.2.1⟩), rfl, ⟨x, by simp, HX.out⟩, hBd.setr false hqp.1, HPx.out.fr hfs (by simp; omega) (by simp; omega) (by simp; omega), (hF.drewN _).set (.inr (by show w.heap.size ≤ w.heap.size + 1 + 1 + 1; omega)) _⟩
  case stop =>
    rintro D c pre V hD _ ⟨rfl, ⟨y, hy, hyt⟩, hB, hP, hF⟩ hK
    have hfs := HF7.out.size
    gi_wp2
    refine ⟨by simp, .inl ⟨_, _, rfl, run_takeDeferred hK, ?_⟩⟩
    have hk := atK_put (.deferred none) hK rfl
    have hc5 := (hB.atK hk).rest.2.1
    have hno := okP_no y.2.1 y.2.2 hyt
    exact ⟨.bool false, by simp [results, Tryz.results133, go_sem, hc5], by rw [hno], by unfold chgF; rw [hno]; exact hP.2.1.atK hk, (hF.putObj D _ (by omega)).more (by simp)⟩
  case done =>
    rintro D xs V hD hall ⟨hne, hB, hP, hF⟩ hK
    have hyes : Hid (okP f A R tb = true) := Lib.hid (okP_yes fun i h1 h2 => by
      obtain ⟨y, hy, he⟩ := hall i h1 h2
      rw [← he]; exact hne y hy)
    have hDw : w.heap.size ≤ D := by have := HF7.out.size; omega
    have HBx := Lib.hid hB
    have HPx := Lib.hid hP
    have HK := Lib.hid hK
    have d0 := hB.cells
    have d1 := hB.rest
    obtain ⟨d1, d2, d3⟩ := d1
    clear hne hall hB hP hK
    go_wp2_with (go_at_call 149; refine (gran_any _ _ _).mono ?_; rintro e w7 ⟨rfl, h7⟩)
    subst h7
    have hq1 := At.new V 45 #[.int .u32 a, .int .u32 s]
    have hfa : Fr [] V (V.alloc (.cells #[.int .u32 a, .int .u32 s] 45)) := (Fr.refl _ _).alloc _
    have B8 := Lib.hid (HBx.out.fr hfa (by simp) (by simp))
    have HF8 := Lib.hid (hF.alloc (.cells #[.int .u32 a, .int .u32 s] 45))
    have HP8 := Lib.hid (HPx.out.fr hfa (by simp) (by simp) (by simp))
    have HD8 := Lib.hid ((hfa.keep D (Array.getElem?_eq_some_iff.1 HK.out).1 (by simp)).trans HK.out)
    have hDV := (Array.getElem?_eq_some_iff.1 HK.out).1
    have hgV := HPx.out.lt
    obtain ⟨q2, hq⟩ : ∃ q, V.heap.size = q := ⟨_, rfl⟩
    obtain ⟨W2, hW2⟩ : ∃ W2, V.alloc (.cells #[.int .u32 a, .int .u32 s] 45) = W2 := ⟨_, rfl⟩
    have hsz2 : W2.heap.size = q2 + 1 := by rw [← hW2, ← hq]; simp
    rw [hW2, hq] at hq1
    rw [hW2] at B8 HF8 HP8 HD8
    rw [hq] at hDV hgV
    rw [hW2, hq]
    rw [← HA.out, ← HSS.out] at hq1
    have HS2 := Lib.hid hsz2
    clear hW2 hq hsz2 hfa hF d0 d1 d2 d3
    refine (wpIn_wide (n := 3)).1 ?_
    refine wpIn_rangeFunc_ownF rfl (by omega) (gf := 157) (lb := #[.pointer (some ⟨q2, 0, none⟩)]) rfl trivial (enters_of Tryz.func157 (by kernel_rfl) rfl) (gran_stops _ A R q2 (by omega) _ hq1) kpAt_t kpAt_b (Below.refl _ _) (fun _ => rfl)
      (fun pre V => Boxes w pp p a s tb false V ∧ Pt V pp p g n (setL f (valsG pre) tb) ∧ V.heap[D]? = some (.deferred (some [])) ∧ Fr [g] w V)
      (fun _ _ _ => False)
      (fun x A B row hs hg hr => ⟨hs.1.atK (atK_grown hg fun r e => (hr r e).2), hs.2.1.atK (atK_grown hg fun r e => (hr r e).2), (hg.block D (Array.getElem?_eq_some_iff.1 hs.2.2.1).1 (fun e => by have := (hr D e.symm).1; have := HS2.out; omega)).trans hs.2.2.1, hs.2.2.2.row hg HF8.out.size hr⟩)
      (fun _ _ _ _ _ hs _ _ => hs)
      ⟨B8.out, by show Pt _ pp p g n (setL f [] tb); rw [setL_nil]; exact HP8.out, HD8.out, HF8.out.more (by simp)⟩ ?a2 ?assign2 ?body2 ?done2 ?stop2
    case assign2 =>
      intro l x V K hK
      gi_wp2
      exact hK
    case body2 =>
      rintro l pre x V3 ⟨hB, hP, hD3, hF⟩ _
      have HBx := Lib.hid hB
      have HPx := Lib.hid hP
      have HD3 := Lib.hid hD3
      have d0 := hB.cells
      have d1 := hB.rest
      obtain ⟨d1, d2, d3⟩ := d1
      have hxn : x.1 < n := by have := x.2; omega
      have hq2 : q2 ≠ g := by omega
      have C := Lib.hid fun (U : World) (hU : U.heap = V3.heap) => put_yes U p g n _ (HPx.out.heap hU).2.1 x.1 tb hxn
      clear hB hP hD3 hxn
      gi_wp2
      refine wpIn_round_still 6 (fun ⟨_, _, h⟩ => h) (by kernel_rfl) (by kernel_rfl) (by kernel_rfl) ?_; simp only [List.take_succ_cons, List.take_zero, List.drop_succ_cons, List.drop_zero]; (repeat still_step); (try refine wpStill_nil ?_)
      change wpList _ _ _ _ _ V3.drew
      go_wp2_with (go_at_call 63; refine (C.out _ (by rfl)).mono ?_; rintro e V4 ⟨rfl, h4, hf4⟩)
      gi_wp2
      have hf5 : Fr [g] V3 V4 := hf4.hd rfl rfl rfl rfl
      obtain ⟨tg, cg, hag⟩ := HPx.out.2.1.atg
      have hDg := hag.ne HD3.out rfl
      refine ⟨hf5.keepsFrom (by simp; exact ⟨_, _, hag⟩), kpAt_fr hf5 (by simp; omega), HBx.out.fr hf5 (by simp; exact HPx.out.2.2.2.1) (by simp; omega), HPx.out.put hf5 ?_, (hf5.keep D (Array.getElem?_eq_some_iff.1 HD3.out).1 (by simp; omega)).trans HD3.out, hF.trans hf5 (by simp)⟩
      rw [valsG_snoc, ← setL_snoc]
      exact h4
    case done2 =>
      rintro D2 ys V3 hD2 hall ⟨hB, hP, hK1, hF⟩ hK2
      have d1 := hB.rest
      obtain ⟨d1, d2, d3⟩ := d1
      have HBx := Lib.hid hB
      have HPx := Lib.hid hP
      have HK1 := Lib.hid hK1
      have HK2 := Lib.hid hK2
      have HALL := Lib.hid (setL_all f A R ys tb hall)
      have hDD : D ≠ D2 := by have := HS2.out; omega
      clear hB hP hK1 hK2 hall
      go_wp2
      have hfs : Fr [w.heap.size + 1 + 1 + 1] V3 (V3.setCell ⟨w.heap.size + 1 + 1 + 1, 0, none⟩ (.bool true)) := (Fr.refl _ _).set (.inl (by simp)) _
      have hko := KeepsOthers.setCell V3 ⟨w.heap.size + 1 + 1 + 1, 0, none⟩ (.bool true)
      have hK2 := hko.same D2 _ HK2.out rfl
      have hK1 := hko.same D _ HK1.out rfl
      have hK1 := (World.putObj_heap_other (w := V3.setCell ⟨w.heap.size + 1 + 1 + 1, 0, none⟩ (.bool true)) (o := .deferred none) hDD).trans hK1
      have hBs := HBx.out.setr true hqp.1
      have hPs := HPx.out.fr hfs (by simp; omega) (by simp; omega) (by simp; omega)
      have hFs := hF.set (a := ⟨w.heap.size + 1 + 1 + 1, 0, none⟩) (.inr (by show w.heap.size ≤ w.heap.size + 1 + 1 + 1; omega)) (.bool true)
      refine ⟨by simp, .inl ⟨_, _, rfl, run_takeDeferred hK2, by simp, .inl ⟨_, _, rfl, run_takeDeferred hK1, ?_⟩⟩⟩
      have hk2 := atK_put (.deferred none) hK2 rfl
      have hk1 := atK_put (.deferred none) hK1 rfl
      have hc5 := ((hBs.atK hk2).atK hk1).rest.2.1
      have hD2w : w.heap.size ≤ D2 := by have := HS2.out; omega
      refine ⟨.bool true, by simp [results, Tryz.results133, go_sem, hc5], by rw [hyes.out], ?_, (hFs.putObj D2 _ hD2w).putObj D _ hDw⟩
      unfold chgF
      rw [if_pos hyes.out, ← HALL.out]
      exact (hPs.2.1.atK hk2).atK hk1
    case stop2 => exact fun _ _ _ _ _ _ h _ => h.elim
end Go.Proofs.YthjbnbimfpbccaaGreatDoor
/-
  Add and Remove of a paint, at every region; nil paints. Condition: at most 16384 granules.
-/



set_option linter.unusedVariables false
namespace Go.Proofs.YthjbnbimfpbccaaGreatDoor
open Go.ChangeShapes Go.WideShapes Go.ChangeAt Go.RowKit
def okC (n : Nat) (f : Nat → Bool) (a s : Int) (tb : Bool) : Bool := decide (a % 16 = 0 ∧ s % 16 = 0 ∧ 0 < s ∧ a + s ≤ 16 * n) && okP f (a / 16).toNat (s / 16).toNat tb
def newC (n : Nat) (f : Nat → Bool) (a s : Int) (tb : Bool) : Nat → Bool := if okC n f a s tb = true then setP f (a / 16).toNat (s / 16).toNat tb else f
theorem okC_no {n : Nat} {f : Nat → Bool} {a s : Int} {tb : Bool} (h : ¬ (a % 16 = 0 ∧ s % 16 = 0 ∧ 0 < s ∧ a + s ≤ 16 * n)) : okC n f a s tb = false ∧ newC n f a s tb = f := by
  have e : okC n f a s tb = false := by unfold okC; rw [decide_eq_false h]; rfl
  unfold newC
  rw [e]; exact ⟨rfl, if_neg (by simp)⟩
theorem okC_nat {n : Nat} {f : Nat → Bool} {A R : Nat} {tb : Bool} (hR : 1 ≤ R) (hAR : A + R ≤ n) :
    okC n f (16 * A : Nat) (16 * R : Nat) tb = okP f A R tb ∧ newC n f (16 * A : Nat) (16 * R : Nat) tb = chgF f A R tb := by
  have e : okC n f (16 * A : Nat) (16 * R : Nat) tb = okP f A R tb := by
    unfold okC
    rw [decide_eq_true (by omega), show (((16 * A : Nat) : Int) / 16).toNat = A by omega, show (((16 * R : Nat) : Int) / 16).toNat = R by omega]; rfl
  unfold newC chgF
  rw [e, show (((16 * A : Nat) : Int) / 16).toNat = A by omega, show (((16 * R : Nat) : Int) / 16).toNat = R by omega]
  exact ⟨rfl, rfl⟩
theorem okC_cases (n : Nat) (a s : Int) (ha : 0 ≤ a) (hs : 0 ≤ s) : (¬ (a % 16 = 0 ∧ s % 16 = 0 ∧ 0 < s ∧ a + s ≤ 16 * n)) ∨ ∃ A R : Nat, a = (16 * A : Nat) ∧ s = (16 * R : Nat) ∧ 1 ≤ R ∧ A + R ≤ n := by
  by_cases h : a % 16 = 0 ∧ s % 16 = 0 ∧ 0 < s ∧ a + s ≤ 16 * n
  · exact .inr ⟨(a / 16).toNat, (s / 16).toNat, by omega, by omega, by omega, by omega⟩
  · exact .inl h
theorem ptchg_any (w : World) (pp p g n : Nat) (f : Nat → Bool) (h : Pt w pp p g n f) (a s : Int) (tb : Bool) (ha : 0 ≤ a) (ha2 : a ≤ 4294967295) (hs : 0 ≤ s) (hs2 : s ≤ 4294967295) :
    Calls Tryz.prog 133 #[.pointer (some ⟨pp, 0, none⟩), .agg #[.int .u32 a, .int .u32 s], .bool tb] w fun r w' => r = .returned (.bool (okC n f a s tb)) ∧ Pt w' pp p g n (newC n f a s tb) ∧ Fr [g] w w' := by
  rcases okC_cases n a s ha hs with hb | ⟨A, R, rfl, rfl, hR, hAR⟩
  · rw [(okC_no hb).1, (okC_no hb).2]
    exact (ptchg_bad w pp p g n f h a s tb ha ha2 hs hs2 hb).mono fun e w' ⟨he, hf⟩ => ⟨he, h.fr hf (by simp) (by simp) (by simp), hf.more (by simp)⟩
  · rw [(okC_nat hR hAR).1, (okC_nat hR hAR).2]
    exact (ptchg_ok w pp p g n f h A R tb hR hAR).mono fun e w' ⟨he, ht, hf⟩ => ⟨he, h.put hf ht, hf⟩
theorem ptadd_any (w : World) (pp p g n : Nat) (f : Nat → Bool) (h : Pt w pp p g n f) (a s : Int) (ha : 0 ≤ a) (ha2 : a ≤ 4294967295) (hs : 0 ≤ s) (hs2 : s ≤ 4294967295) :
    Calls Tryz.prog 103 #[.pointer (some ⟨pp, 0, none⟩), .agg #[.int .u32 a, .int .u32 s]] w fun r w' => r = .returned (.bool (okC n f a s true)) ∧ Pt w' pp p g n (newC n f a s true) ∧ Fr [g] w w' := by
  have C := Lib.hid fun (W : World) (hW : Fr [] w W) => ptchg_any W pp p g n f (h.fr hW (by simp) (by simp) (by simp)) a s true ha ha2 hs hs2
  have H := Lib.hid h.lt
  clear h
  generalize okC n f a s true = ok at *
  generalize newC n f a s true = f' at *
  go_enter Tryz.func103, Tryz.ntmps103
  go_wp2_with (go_at_call 133; refine (C.out _ (by repeat (first | exact Fr.refl _ _ | assumption | refine Fr.trans0 ?_ (by assumption) | refine Fr.drewN ?_ _ | refine Fr.alloc ?_ _ | refine Fr.drew ?_))).mono ?_; rintro e w2 ⟨rfl, h2, hf2⟩)
  go_ret
  exact ⟨rfl, h2, Fr.trans (by repeat (first | exact Fr.refl _ _ | assumption | refine Fr.trans0 ?_ (by assumption) | refine Fr.drewN ?_ _ | refine Fr.alloc ?_ _ | refine Fr.drew ?_)) hf2 (by simp)⟩
theorem ptadd_nil (w : World) (a s : Int) : Calls Tryz.prog 103 #[.pointer none, .agg #[.int .u32 a, .int .u32 s]] w fun r w' => r = .returned (.bool false) ∧ Fr [] w w' := by
  go_enter Tryz.func103, Tryz.ntmps103
  go_wp2_with (go_at_call 133; refine (ptchg_nil _ a s true).mono ?_; rintro e w2 ⟨rfl, hf2⟩)
  go_ret
  exact ⟨rfl, Fr.trans0 (by repeat (first | exact Fr.refl _ _ | assumption | refine Fr.trans0 ?_ (by assumption) | refine Fr.drewN ?_ _ | refine Fr.alloc ?_ _ | refine Fr.drew ?_)) hf2⟩
end Go.Proofs.YthjbnbimfpbccaaGreatDoor
/-
  Regions in a list, and the granules that they paint. No condition; no program in sight.
-/



set_option linter.unusedVariables false
namespace Go.Proofs.YthjbnbimfpbccaaGreatDoor
open Go.ChangeShapes Go.WideShapes Go.ChangeAt Go.RowKit
def cov (l : List (Nat × Nat)) (j : Nat) : Bool := l.any fun r => decide (r.1 ≤ 16 * j) && decide (16 * j < r.1 + r.2)
structure Good (n : Nat) (l : List (Nat × Nat)) : Prop where
  al : ∀ r ∈ l, r.1 % 16 = 0 ∧ r.2 % 16 = 0 ∧ 0 < r.2 ∧ r.1 + r.2 ≤ 16 * n
  rise : Rise l
theorem good_nil (n : Nat) : Good n [] := ⟨(fun r h => by cases h), fun i j r s _ h => by simp at h⟩
theorem Good.place {n : Nat} {l : List (Nat × Nat)} (h : Good n l) : ∀ (i : Nat) (r : Nat × Nat), l[i]? = some r → 16 * i ≤ r.1
  | 0, r, hr => by omega
  | i + 1, r, hr => by
    obtain ⟨hlt, _⟩ := List.getElem?_eq_some_iff.1 hr
    obtain ⟨s, hs⟩ : ∃ s, l[i]? = some s := ⟨_, List.getElem?_eq_getElem (by omega)⟩
    have h1 := h.place i s hs
    have h2 := h.rise i (i + 1) s r (by omega) hs hr
    have h3 := (h.al s (List.mem_of_getElem? hs)).1
    have h4 := (h.al r (List.mem_of_getElem? hr)).1
    omega
theorem Good.len {n : Nat} {l : List (Nat × Nat)} (h : Good n l) : l.length ≤ n := by
  rcases Nat.eq_zero_or_pos l.length with h0 | h0
  · omega
  · obtain ⟨s, hs⟩ : ∃ s, l[l.length - 1]? = some s := ⟨_, List.getElem?_eq_getElem (by omega)⟩
    have h1 := h.place _ s hs
    have h2 := h.al s (List.mem_of_getElem? hs)
    omega
theorem insL_mem (l : List (Nat × Nat)) (k : Nat) (r x : Nat × Nat) : x ∈ insL l k r ↔ x = r ∨ x ∈ l := by
  unfold insL
  rw [List.mem_append, List.mem_cons]
  constructor
  · rintro (h | h | h)
    · exact .inr (List.mem_of_mem_take h)
    · exact .inl h
    · exact .inr (List.mem_of_mem_drop h)
  · rintro (h | h)
    · exact .inr (.inl h)
    · rw [← List.take_append_drop k l, List.mem_append] at h
      rcases h with h | h
      · exact .inl h
      · exact .inr (.inr h)
theorem cov_ins (l : List (Nat × Nat)) (k : Nat) (r : Nat × Nat) (j : Nat) : cov (insL l k r) j = (cov [r] j || cov l j) := by
  rw [Bool.eq_iff_iff]
  unfold cov
  rw [Bool.or_eq_true, List.any_eq_true, List.any_eq_true, List.any_eq_true]
  constructor
  · rintro ⟨x, hx, h⟩
    rcases (insL_mem l k r x).1 hx with rfl | hx
    · exact .inl ⟨x, by simp, h⟩
    · exact .inr ⟨x, hx, h⟩
  · rintro (⟨x, hx, h⟩ | ⟨x, hx, h⟩)
    · exact ⟨x, (insL_mem l k r x).2 (.inl (by simpa using hx)), h⟩
    · exact ⟨x, (insL_mem l k r x).2 (.inr hx), h⟩
/-- Whether one of a region's granules is painted. -/
def tch (f : Nat → Bool) (A R : Nat) : Bool := (List.range R).any fun k => f (A + k)
theorem tch_no {f : Nat → Bool} {A R : Nat} (h : tch f A R = false) : ∀ j, A ≤ j → j < A + R → f j = false := fun j h1 h2 => by
  unfold tch at h
  rw [List.any_eq_false] at h
  have := h (j - A) (List.mem_range.2 (by omega))
  rw [show A + (j - A) = j by omega] at this
  simpa using this
theorem cov_one (A R j : Nat) : cov [(16 * A, 16 * R)] j = (decide (A ≤ j) && decide (j < A + R)) := by
  unfold cov
  simp only [List.any_cons, List.any_nil, Bool.or_false]
  congr 1
  · rw [decide_eq_decide]; omega
  · rw [decide_eq_decide]; omega
theorem ins_get (l : List (Nat × Nat)) (k : Nat) (hk : k ≤ l.length) (r : Nat × Nat) (i : Nat) : (insL l k r)[i]? = if i < k then l[i]? else if i = k then some r else l[i - 1]? := by
  have htl : (l.take k).length = k := by rw [List.length_take]; omega
  unfold insL
  by_cases h1 : i < k
  · rw [if_pos h1, List.getElem?_append_left (by omega), List.getElem?_take, if_pos h1]
  · rw [if_neg h1, List.getElem?_append_right (by omega), htl]
    by_cases h2 : i = k
    · rw [if_pos h2, h2, Nat.sub_self]; rfl
    · rw [if_neg h2, show i - k = (i - 1 - k) + 1 by omega, List.getElem?_cons_succ, List.getElem?_drop]
      congr 1; omega
/-- A region that touches nothing, put in its place. -/
theorem Good.ins {n : Nat} {l : List (Nat × Nat)} (h : Good n l) (A R k : Nat) (hR : 0 < R) (hn : A + R ≤ n) (hp : Place l (16 * A) k) (ht : tch (cov l) A R = false) : Good n (insL l k (16 * A, 16 * R)) := by
  obtain ⟨hk, h1, h2⟩ := hp
  have hno := tch_no ht A (by omega) (by omega)
  have hne : ∀ j s, k ≤ j → l[j]? = some s → 16 * A < s.1 := fun j s hj hs => by
    have h3 := h2 j s hj hs
    rcases Nat.lt_or_ge (16 * A) s.1 with h4 | h4
    · exact h4
    · exfalso
      have h5 := h.al s (List.mem_of_getElem? hs)
      unfold cov at hno
      rw [List.any_eq_false] at hno
      have := hno s (List.mem_of_getElem? hs)
      simp at this
      omega
  refine ⟨fun r hr => ?_, fun i j r s hij hr hs => ?_⟩
  · rcases (insL_mem l k _ r).1 hr with rfl | hr
    · dsimp only; omega
    · exact h.al r hr
  · rw [ins_get l k hk] at hr hs
    by_cases hjk : j < k
    · rw [if_pos (by omega)] at hr
      rw [if_pos hjk] at hs
      exact h.rise i j r s hij hr hs
    · rw [if_neg hjk] at hs
      by_cases hik : i < k
      · rw [if_pos hik] at hr
        by_cases hj : j = k
        · rw [if_pos hj] at hs
          injection hs with hs
          subst hs
          exact h1 i r hik hr
        · rw [if_neg hj] at hs
          exact h.rise i (j - 1) r s (by omega) hr hs
      · rw [if_neg hik] at hr
        rw [if_neg (by omega)] at hs
        by_cases hi : i = k
        · rw [if_pos hi] at hr
          injection hr with hr
          subst hr
          exact hne (j - 1) s (by omega) hs
        · rw [if_neg hi] at hr
          exact h.rise (i - 1) (j - 1) r s (by omega) hr hs
theorem paint_ins {n : Nat} (l : List (Nat × Nat)) (A R k : Nat) (hR : 1 ≤ R) (hn : A + R ≤ n) (ht : tch (cov l) A R = false) : okC n (cov l) ((16 * A : Nat) : Int) ((16 * R : Nat) : Int) true = true ∧ newC n (cov l) ((16 * A : Nat) : Int) ((16 * R : Nat) : Int) true = cov (insL l k (16 * A, 16 * R)) := by
  have ho : okP (cov l) A R true = true := okP_yes (fun j j1 j2 => by rw [tch_no ht j j1 j2]; simp)
  obtain ⟨h1, h2⟩ := @okC_nat n (cov l) A R true hR hn
  refine ⟨by rw [h1, ho], ?_⟩
  rw [h2]
  unfold chgF
  rw [ho, if_pos rfl]
  funext j
  rw [cov_ins, cov_one]
  unfold setP
  by_cases e : A ≤ j ∧ j < A + R
  · rw [if_pos e]; simp [e.1, e.2]
  · rw [if_neg e]
    have : (decide (A ≤ j) && decide (j < A + R)) = false := by simp; omega
    rw [this, Bool.false_or]
end Go.Proofs.YthjbnbimfpbccaaGreatDoor
/-
  What the functions of a lot compute. Condition: numbers in their types' ranges.
-/



set_option linter.unusedVariables false
namespace Go.Proofs.YthjbnbimfpbccaaGreatDoor
open Go.ChangeShapes Go.WideShapes Go.ChangeAt Go.RowKit
theorem res_rowL {P : Program} {fn : Func} {p : Tmp} {ty : TypeId} (h : fn.results = #[.cell p ty]) (tmps : Array Value) (w : World) (g : Nat) (t : TypeId) (cs : Array Value) (d : TypeDesc)
    (hp : tmps.getD p undef = .pointer (some ⟨g, 0, none⟩)) (hg : At w g t cs)
    (hu : P.underlying ty = some d) (hd : (match d with | .struct _ | .array _ _ => true | _ => false) = true) (hi : (P.info? ty).map (·.size) = some cs.size) :
    (results fn tmps).run P w = .ok (.agg cs) w := results_cell_row h tmps w g t cs (0, 0) d hp hg hu hd hi
theorem At.newq {w : World} {g : Nat} {t : TypeId} {cs : Array Value} (h : g = w.heap.size) : At (w.alloc (.cells cs t)) g t cs := by subst h; exact At.new w t cs
/-- A list and its paint. -/
structure Lt (w : World) (v : Value) (a b c n : Nat) (l : List (Nat × Nat)) : Prop where
  own : w.ownsRow 0 45 2 v l.length (rgv l)
  pt : Pt w a b c n (cov l)
  good : Good n l
theorem Lt.fr {w w' : World} {v : Value} {a b c n : Nat} {l : List (Nat × Nat)} {S : List Nat} (h : Lt w v a b c n l) (f : Fr S w w') (h1 : a ∉ S) (h2 : b ∉ S) (h3 : c ∉ S) (h4 : ∀ g, v.ownBlock = some g → g ∉ S) : Lt w' v a b c n l := ⟨own_fr h.own f h4, h.pt.fr f h1 h2 h3, h.good⟩
theorem Lt.fr0 {w w' : World} {v : Value} {a b c n : Nat} {l : List (Nat × Nat)} (h : Lt w v a b c n l) (f : Fr [] w w') : Lt w' v a b c n l := h.fr f (by simp) (by simp) (by simp) (by simp)
set_option maxRecDepth 100000 in
theorem fresh_any (n : Nat) (w : World) (hn : n ≤ 16384) :
    Calls Tryz.prog 70 #[.int .i64 (16 * n : Nat)] w fun r w' => ∃ a b c, r = .returned (.agg #[.slice none 0 0, .pointer (some ⟨a, 0, none⟩)]) ∧ Lt w' (.slice none 0 0) a b c n [] ∧ w.heap.size ≤ a ∧ w.heap.size ≤ b ∧ w.heap.size ≤ c ∧ Fr [] w w' := by
  obtain ⟨m, hm⟩ : ∃ m, 16 * n = m := ⟨_, rfl⟩
  have C := Lib.hid fun W => ptnew_any n W hn
  rw [hm] at C ⊢
  have HI := Lib.hid (show (Tryz.prog.info? 117).map (·.size) = some 2 by kernel_rfl)
  clear hm
  go_enter Tryz.func70, Tryz.ntmps70
  go_wp2_with fail
  refine (C.out _).mono ?_
  rintro e w2 ⟨a, b, c, rfl, h2, ha, hb, hc, hf2⟩
  have hga : Fr [] w (w.alloc (.cells #[.slice none 0 0, .pointer none] 117)) := (by repeat (first | exact Fr.refl _ _ | assumption | refine Fr.trans0 ?_ (by assumption) | refine Fr.drewN ?_ _ | refine Fr.alloc ?_ _ | refine Fr.drew ?_))
  rw [World.size_alloc] at ha hb hc
  have A2 := (At.new w 117 #[.slice none 0 0, .pointer none]).fr hf2 (by simp)
  have P2 := Lib.hid h2
  have F2 := Lib.hid (hga.trans0 hf2)
  have HA2 := Lib.hid A2
  have c0 := A2.cell 0
  have c1 := A2.cell 1
  have z0 := A2.froz 0
  have z1 := A2.froz 1
  simp only [List.getElem?_toArray, List.getElem?_cons_zero, List.getElem?_cons_succ] at c0 c1
  clear h2 hf2 hga A2
  go_wp2_with fail
  have hs := F2.out.size
  have A3 := (HA2.out.set 0 (.slice none 0 0)).set 1 (.pointer (some ⟨a, 0, none⟩))
  have F3 : Fr [w.heap.size] w2 ((w2.setCell ⟨w.heap.size, 0, none⟩ (.slice none 0 0)).setCell ⟨w.heap.size, 1, none⟩ (.pointer (some ⟨a, 0, none⟩))) := ((Fr.refl _ _).set (.inl (by simp)) _).set (.inl (by simp)) _
  refine bodyPost_ret (res_rowL rfl _ _ w.heap.size 117 _ _ rfl A3 Tryz.underlying117 rfl HI.out) rfl ⟨a, b, c, rfl, ⟨World.ownsRow_nil _ _ _ _, ?_, good_nil n⟩, by omega, by omega, by omega, F2.out.trans F3 (by simp)⟩
  exact P2.out.fr F3 (by simp; omega) (by simp; omega) (by simp; omega)
set_option maxHeartbeats 1000000 in
set_option maxRecDepth 100000 in
theorem touched_any (w : World) (v : Value) (a b c n : Nat) (l : List (Nat × Nat)) (h : Lt w v a b c n l) (A R : Nat) (hn : A + R ≤ n) :
    Calls Tryz.prog 58 #[.agg #[v, .pointer (some ⟨a, 0, none⟩)], .agg #[.int .u32 (16 * A : Nat), .int .u32 (16 * R : Nat)]] w fun r w' => r = .returned (.bool (tch (cov l) A R)) ∧ Fr [] w w' := by
  have hn2 := h.pt.2.2.2.2
  have C := Lib.hid fun (W : World) (hW : Fr [] w W) (x : Nat) (hx : x < n) => pthas_any W a b c n (cov l) (h.pt.fr hW (by simp) (by simp) (by simp)) ((16 * x : Nat) : Int) (by omega) (by omega)
  have CH := Lib.hid fun (x : Nat) (hx : x < n) => show hasP n (cov l) ((16 * x : Nat) : Int) = cov l x by
    unfold hasP
    rw [show (((16 * x : Nat) : Int) / 16) = (x : Int) by omega, inR_nat x n hx, Int.toNat_natCast, Bool.true_and]
  have hT0 : Hid (tch (cov l) A R = (List.range R).any fun k => cov l (A + k)) := Lib.hid rfl
  obtain ⟨T, hT⟩ : ∃ T, tch (cov l) A R = T := ⟨_, rfl⟩
  rw [hT] at hT0 ⊢
  obtain ⟨sa, hsa⟩ : ∃ s, 16 * A = s := ⟨_, rfl⟩
  obtain ⟨sr, hsr⟩ : ∃ s, 16 * R = s := ⟨_, rfl⟩
  obtain ⟨va, vc, rfl, -⟩ := own_slice h.own
  have HSA := Lib.hid hsa
  have HSR := Lib.hid hsr
  have hb1 : sa + sr ≤ 262144 := by omega
  rw [hsa, hsr]
  obtain ⟨L, hL⟩ : ∃ L, l.length = L := ⟨_, rfl⟩
  rw [hL]
  have w1 : IntKind.u64.wrap (sa : Int) = sa := by simp [IntKind.wrap, IntKind.signed, IntKind.bits]; omega
  have A0 := Lib.hid ((At.new w 117 #[.slice va L vc, .pointer (some ⟨a, 0, none⟩)]).old (.cells #[.int .u32 (sa : Int), .int .u32 (sr : Int)] 45))
  have A1 := Lib.hid (At.newq (w := w.alloc (.cells #[.slice va L vc, .pointer (some ⟨a, 0, none⟩)] 117)) (g := w.heap.size + 1) (t := 45) (cs := #[.int .u32 (sa : Int), .int .u32 (sr : Int)]) (by simp only [World.size_alloc]))
  have F0 := Lib.hid (show Fr [] w ((w.alloc (.cells #[.slice va L vc, .pointer (some ⟨a, 0, none⟩)] 117)).alloc (.cells #[.int .u32 (sa : Int), .int .u32 (sr : Int)] 45)) from (by repeat (first | exact Fr.refl _ _ | assumption | refine Fr.trans0 ?_ (by assumption) | refine Fr.drewN ?_ _ | refine Fr.alloc ?_ _ | refine Fr.drew ?_)))
  clear h hT hsa hsr hL
  go_enter Tryz.func58, Tryz.ntmps58
  go_wp2_with fail
  go_loopw [5] (fun s wr => ∃ k : Nat, k ≤ R ∧ s = .int .u64 ((sa + 16 * k : Nat) : Int) ∧ ((List.range k).any fun k => cov l (A + k)) = false ∧ At wr w.heap.size 117 #[.slice va L vc, .pointer (some ⟨a, 0, none⟩)] ∧ At wr (w.heap.size + 1) 45 #[.int .u32 (sa : Int), .int .u32 (sr : Int)] ∧ Fr [] w wr) (fun s _ => sa + sr - (intOf s).toNat)
  case atStart => exact ⟨0, by omega, rfl, rfl, A0.out, A1.out, F0.out⟩
  case round =>
    clear A0 A1 F0
    obtain ⟨k, hk, rfl, hno, h0, h1, hf⟩ := hrel
    have c0 := h0.cell 1
    have d0 := h1.cell 0
    have d1 := h1.cell 1
    simp only [List.getElem?_toArray, List.getElem?_cons_zero, List.getElem?_cons_succ] at c0 d0 d1
    have H0 := Lib.hid h0
    have H1 := Lib.hid h1
    have HF := Lib.hid hf
    have HNO := Lib.hid hno
    have hR := HSR.out
    have hA := HSA.out
    have hra : sr = R * 16 := by omega
    have w2 : IntKind.u64.wrap (sr : Int) = sr := by simp [IntKind.wrap, IntKind.signed, IntKind.bits]; omega
    have w3 : IntKind.u64.wrap ((sa : Int) + (sr : Int)) = (sa : Int) + sr := by simp [IntKind.wrap, IntKind.signed, IntKind.bits]; omega
    clear h0 h1 hf hno
    obtain ⟨p, hp⟩ : ∃ p, sa + 16 * k = p := ⟨_, rfl⟩
    have hp16 : p = 16 * (A + k) := by omega
    have w4 : IntKind.u32.wrap (p : Int) = (p : Int) := by simp [IntKind.wrap, IntKind.signed, IntKind.bits]; omega
    have w5 : IntKind.u64.wrap ((p : Int) + 16) = (p : Int) + 16 := by simp [IntKind.wrap, IntKind.signed, IntKind.bits]; omega
    rw [hp]
    by_cases hkr : k < R
    · have hlt : (p : Int) < (sa : Int) + (sr : Int) := by omega
      have CX := C.out wr HF.out (A + k) (by omega)
      rw [CH.out (A + k) (by omega), ← hp16] at CX
      obtain ⟨B, hB⟩ : ∃ B, cov l (A + k) = B := ⟨_, rfl⟩
      rw [hB] at CX
      have HCX := Lib.hid CX
      have HB := Lib.hid hB
      have HPE := Lib.hid hp
      clear CX hB hR hA hra hp16 hp
      cases B
      · go_wp2_with fail
        refine (HCX.out).mono ?_
        rintro e w' ⟨rfl, rfl⟩
        go_wp2_with fail
        go_roundw
        case rel => exact ⟨k + 1, by omega, by rw [show sa + 16 * (k + 1) = p + 16 by have := HPE.out; omega]; go_num, by rw [List.range_succ, List.any_append, HNO.out]; simp [HB.out], H0.out, H1.out, HF.out⟩
        case measure => simp [intOf]; omega
      · go_wp2_with fail
        refine (HCX.out).mono ?_
        rintro e w' ⟨rfl, rfl⟩
        go_wp2_with fail
        go_ret
        refine ⟨ret_bool ?_, HF.out⟩
        rw [hT0.out]
        symm
        rw [List.any_eq_true]
        exact ⟨k, List.mem_range.2 hkr, HB.out⟩
    · obtain rfl : k = R := by omega
      have hlt : ¬ ((p : Int) < (sa : Int) + (sr : Int)) := by omega
      clear hR hA hra hp16 hp
      go_wp2_with fail
      go_ret
      exact ⟨ret_bool (by rw [hT0.out]; exact HNO.out.symm), HF.out⟩
end Go.Proofs.YthjbnbimfpbccaaGreatDoor
/-
  What lot.add does with a region that touches nothing. Condition: numbers in their types' ranges.
-/



set_option linter.unusedVariables false
namespace Go.Proofs.YthjbnbimfpbccaaGreatDoor
open Go.ChangeShapes Go.WideShapes Go.ChangeAt Go.RowKit
theorem builtR (w : World) (x y : Nat) : (Instr.buildSlice 35 1 #[(0, .agg #[.int .u32 x, .int .u32 y])]).run Tryz.prog w = .ok (.slice (some ⟨w.heap.size, 0, none⟩) 1 1) (w.alloc (.cells #[.int .u32 x, .int .u32 y] 45)) := by kernel_rfl
def Added (w : World) (y o : Nat) (t : TypeId) (cs : Array Value) (v : Value) (a b c n : Nat) (l : List (Nat × Nat)) (A R : Nat) (w' : World) : Prop :=
  ∃ (v' : Value) (k : Nat), Place l (16 * A) k ∧ At w' y t (cs.setIfInBounds o v') ∧ Lt w' v' a b c n (insL l k (16 * A, 16 * R)) ∧ Fr (y :: c :: v.ownBlock.toList) w w' ∧ ∀ g, v'.ownBlock = some g → v.ownBlock = some g ∨ w.heap.size ≤ g
theorem Pt.blocks {w : World} {a b c n : Nat} {f : Nat → Bool} (h : Pt w a b c n f) : (∃ cs, At w a 204 cs) ∧ (∃ cs, At w b 179 cs) ∧ ∃ cs, At w c 28 cs := by
  obtain ⟨h1, ⟨k1, k2, k3, m, cs, k4, k5, k6, k7⟩, _⟩ := h
  exact ⟨⟨_, h1⟩, ⟨_, k5⟩, ⟨_, k6⟩⟩
theorem Lt.apart {w : World} {v : Value} {a b c n : Nat} {l : List (Nat × Nat)} (h : Lt w v a b c n l) : a ∉ v.ownBlock.toList ∧ b ∉ v.ownBlock.toList ∧ c ∉ v.ownBlock.toList := by
  obtain ⟨⟨_, h1⟩, ⟨_, h2⟩, ⟨_, h3⟩⟩ := Pt.blocks h.pt
  exact ⟨own_toList h.own h1 (by decide), own_toList h.own h2 (by decide), own_toList h.own h3 (by decide)⟩
theorem Pt.apart {w : World} {a b c n y : Nat} {f : Nat → Bool} {cs : Array Value} (h : Pt w a b c n f) (hy : At w y 119 cs) : a ≠ y ∧ b ≠ y ∧ c ≠ y := by
  obtain ⟨⟨_, h1⟩, ⟨_, h2⟩, ⟨_, h3⟩⟩ := Pt.blocks h
  refine ⟨?_, ?_, ?_⟩
  · rintro rfl; exact absurd (h1.inj hy).1 (by decide)
  · rintro rfl; exact absurd (h2.inj hy).1 (by decide)
  · rintro rfl; exact absurd (h3.inj hy).1 (by decide)
set_option maxHeartbeats 2000000 in
set_option maxRecDepth 100000 in
theorem ladd_any (w : World) (y o : Nat) (cs : Array Value) (v : Value) (a b c n : Nat) (l : List (Nat × Nat)) (hy : At w y 119 cs) (h0 : cs[o]? = some v) (h1 : cs[o + 1]? = some (.pointer (some ⟨a, 0, none⟩))) (h : Lt w v a b c n l)
    (A R : Nat) (hR : 1 ≤ R) (hn : A + R ≤ n) (ht : tch (cov l) A R = false) :
    Calls Tryz.prog 59 #[.pointer (some ⟨y, o, none⟩), .agg #[.int .u32 (16 * A : Nat), .int .u32 (16 * R : Nat)]] w fun e w' => (∃ x, e = .returned x) ∧ Added w y o 119 cs v a b c n l A R w' := by
  have hn2 := h.pt.2.2.2.2
  have hlen := h.good.len
  have CB := Lib.hid fun (W : World) (hW : Fr [] w W) => bsearch_any W v l (16 * A, 16 * R) (own_fr0 h.own hW) (by omega) h.good.rise (fun x hx => by have := h.good.al x hx; omega) (by dsimp only; omega)
  have HPA := Lib.hid fun k => paint_ins l A R k hR hn ht
  have HGI := Lib.hid fun k hk => h.good.ins A R k (by omega) hn hk ht
  have H := Lib.hid h
  have HIL := Lib.hid fun k (hk : k ≤ l.length) => insL_len l k (16 * A, 16 * R) hk
  obtain ⟨sa, hsa⟩ : ∃ s, 16 * A = s := ⟨_, rfl⟩
  obtain ⟨sr, hsr⟩ : ∃ s, 16 * R = s := ⟨_, rfl⟩
  have HSA := Lib.hid hsa
  have HSR := Lib.hid hsr
  have hb1 : sa + sr ≤ 262144 := by omega
  rw [hsa, hsr] at CB HGI HIL HPA ⊢
  unfold Added
  rw [hsa, hsr]
  have HY := Lib.hid hy
  have H0 := Lib.hid h0
  have H1 := Lib.hid h1
  have A0 := Lib.hid (At.new w 45 #[.int .u32 (sa : Int), .int .u32 (sr : Int)])
  have F0 := Lib.hid (show Fr [] w (w.alloc (.cells #[.int .u32 (sa : Int), .int .u32 (sr : Int)] 45)) from (by repeat (first | exact Fr.refl _ _ | assumption | refine Fr.trans0 ?_ (by assumption) | refine Fr.drewN ?_ _ | refine Fr.alloc ?_ _ | refine Fr.drew ?_)))
  have Y0 := Lib.hid (hy.old (.cells #[.int .u32 (sa : Int), .int .u32 (sr : Int)] 45))
  have HIN := Lib.hid fun (W : World) (u : Value) q hq hu i hi hne => insert_any W l (sa, sr) q hq (by omega) u hu i hi hne
  obtain ⟨X, hX⟩ : ∃ X, w.alloc (.cells #[.int .u32 (sa : Int), .int .u32 (sr : Int)] 45) = X := ⟨_, rfl⟩
  rw [hX] at A0 F0 Y0
  have HX := Lib.hid hX
  have hyl := hy.lt
  clear hsa hsr hy h0 h1 h ht hX
  go_enter Tryz.func59, Tryz.ntmps59
  go_wp2_with fail
  rw [HX.out]
  refine wp_region_L (fun W => Fr [] w W ∧ At W y 119 cs ∧ At W w.heap.size 45 #[.int .u32 (sa : Int), .int .u32 (sr : Int)]) [] (by kernel_rfl) ⟨F0.out.drew, Y0.out.hp rfl, A0.out.hp rfl⟩ (fun hHeld => ?_)
  refine wpAnyL_take (i := 0) (v := ?_) rfl (by kernel_rfl) (fun _ _ _ h => h) (Or.inl ⟨by rfl, ?_⟩) (by assumption) ?_; rotate_left; (focus (intro w hSw; skip; go_simp; (try with_reducible rfl))); (try (refine wpAnyL_norm (by simp only [Act.put, List.setIfInBounds_toArray, List.set_cons_zero, List.set_cons_succ]; rfl) ?_))
  refine wpAnyL_take (i := 1) (v := ?_) rfl (by kernel_rfl) (fun _ _ _ h => h) (Or.inl ⟨by rfl, ?_⟩) (by assumption) ?_; rotate_left; (focus (intro w hSw; skip; go_simp; (try with_reducible rfl))); (try (refine wpAnyL_norm (by simp only [Act.put, List.setIfInBounds_toArray, List.set_cons_zero, List.set_cons_succ]; rfl) ?_))
  refine wpAnyL_take (i := 2) (v := ?_) rfl (by kernel_rfl) (fun _ _ _ h => h) (Or.inl ⟨by rfl, ?_⟩) (by assumption) ?_; rotate_left; (focus (intro w hSw; skip; go_simp; (try with_reducible rfl))); (try (refine wpAnyL_norm (by simp only [Act.put, List.setIfInBounds_toArray, List.set_cons_zero, List.set_cons_succ]; rfl) ?_))
  refine wpAnyL_take (i := 3) (v := ?_) rfl (by kernel_rfl) (fun _ _ _ h => h) (Or.inl ⟨by rfl, ?_⟩) (by assumption) ?_; rotate_left; (focus (intro w hSw; (have cc := (hSw.2.1.cell o).trans H0.out); go_simp; (try with_reducible rfl))); (try (refine wpAnyL_norm (by simp only [Act.put, List.setIfInBounds_toArray, List.set_cons_zero, List.set_cons_succ]; rfl) ?_))
  refine wpAnyL_take (i := 4) rfl (by kernel_rfl) (fun _ _ _ h => h) (yields_load_at 45 (.tmp 3) rfl ⟨w.heap.size, 0, none⟩ rfl [.int .u32 (sa : Int), .int .u32 (sr : Int)] _ (fun W h j v hv => by rw [Go.WideShapes.add_plain, Nat.zero_add, h.2.2.cell, List.getElem?_toArray]; exact hv) Tryz.underlying45 rfl infoRgS rfl) (by assumption) ?_; (try (refine wpAnyL_norm (by simp only [Act.put, List.setIfInBounds_toArray, List.set_cons_zero, List.set_cons_succ]; rfl) ?_))
  refine wpAnyL_ready (rs := [5]) (by kernel_rfl) (by simp) ?_; refine AllReadyL.cons rfl (fun K hK => ?_) AllReadyL.nil
  go_simp
  refine (CB.out _ hHeld.1).mono ?_
  rintro e w3 ⟨k, hpl, ⟨bb, rfl⟩, hf3⟩
  refine hK.out _ _ (fun _ => ⟨hHeld.1.trans0 hf3, hHeld.2.1.fr hf3 (by simp), hHeld.2.2.fr hf3 (by simp)⟩) (fun hHeld' => ?_); have hHeld := hHeld' (by decide); clear hHeld' hK K; (try (refine wpAnyL_norm (by simp only [Act.put, List.setIfInBounds_toArray, List.set_cons_zero, List.set_cons_succ]; rfl) ?_))
  refine wpAnyL_take (i := 6) (v := ?_) rfl (by kernel_rfl) (fun _ _ _ h => h) (Or.inl ⟨by rfl, ?_⟩) (by assumption) ?_; rotate_left; (focus (intro w hSw; skip; go_simp; (try with_reducible rfl))); (try (refine wpAnyL_norm (by simp only [Act.put, List.setIfInBounds_toArray, List.set_cons_zero, List.set_cons_succ]; rfl) ?_))
  refine wpAnyL_take (i := 7) (v := ?_) rfl (by kernel_rfl) (fun _ _ _ h => h) (Or.inl ⟨by rfl, ?_⟩) (by assumption) ?_; rotate_left; (focus (intro w hSw; skip; go_simp; (try with_reducible rfl))); (try (refine wpAnyL_norm (by simp only [Act.put, List.setIfInBounds_toArray, List.set_cons_zero, List.set_cons_succ]; rfl) ?_))
  refine wpAnyL_take (i := 8) (v := ?_) rfl (by kernel_rfl) (fun _ _ _ h => h) (Or.inl ⟨by rfl, ?_⟩) (by assumption) ?_; rotate_left; (focus (intro w hSw; skip; go_simp; (try with_reducible rfl))); (try (refine wpAnyL_norm (by simp only [Act.put, List.setIfInBounds_toArray, List.set_cons_zero, List.set_cons_succ]; rfl) ?_))
  refine wpAnyL_take (i := 9) (v := ?_) rfl (by kernel_rfl) (fun _ _ _ h => h) (Or.inl ⟨by rfl, ?_⟩) (by assumption) ?_; rotate_left; (focus (intro w hSw; skip; go_simp; (try with_reducible rfl))); (try (refine wpAnyL_norm (by simp only [Act.put, List.setIfInBounds_toArray, List.set_cons_zero, List.set_cons_succ]; rfl) ?_))
  refine wpAnyL_take (i := 10) (v := ?_) rfl (by kernel_rfl) (fun _ _ _ h => h) (Or.inl ⟨by rfl, ?_⟩) (by assumption) ?_; rotate_left; (focus (intro w hSw; skip; go_simp; (try with_reducible rfl))); (try (refine wpAnyL_norm (by simp only [Act.put, List.setIfInBounds_toArray, List.set_cons_zero, List.set_cons_succ]; rfl) ?_))
  refine wpAnyL_done (by kernel_rfl) ?_ _
  have HPL := Lib.hid hpl
  have S3 := Lib.hid hHeld
  clear hf3 hpl hHeld A0 F0 Y0 HX CB
  go_wp2_with fail
  have hvl := fun g hg => (H.out.own.lt g hg).2
  have HVL := Lib.hid hvl
  have OV := Lib.hid (own_fr0 H.out.own S3.out.1)
  clear hvl
  refine wp_region_L (fun W => At W y 119 cs ∧ At W w.heap.size 45 #[.int .u32 (sa : Int), .int .u32 (sr : Int)]) [11] (by kernel_rfl) ⟨S3.out.2.1.hp rfl, S3.out.2.2.hp rfl⟩ (fun hHeld => ?_)
  refine wpAnyL_take (i := 0) (v := ?_) rfl (by kernel_rfl) (fun _ _ _ h => h) (Or.inl ⟨by rfl, ?_⟩) (by assumption) ?_; rotate_left; (focus (intro w hSw; skip; go_simp; (try with_reducible rfl))); (try (refine wpAnyL_norm (by simp only [Act.put, List.setIfInBounds_toArray, List.set_cons_zero, List.set_cons_succ]; rfl) ?_))
  refine wpAnyL_take (i := 1) (v := ?_) rfl (by kernel_rfl) (fun _ _ _ h => h) (Or.inl ⟨by rfl, ?_⟩) (by assumption) ?_; rotate_left; (focus (intro w hSw; skip; go_simp; (try with_reducible rfl))); (try (refine wpAnyL_norm (by simp only [Act.put, List.setIfInBounds_toArray, List.set_cons_zero, List.set_cons_succ]; rfl) ?_))
  refine wpAnyL_take (i := 2) (v := ?_) rfl (by kernel_rfl) (fun _ _ _ h => h) (Or.inl ⟨by rfl, ?_⟩) (by assumption) ?_; rotate_left; (focus (intro w hSw; skip; go_simp; (try with_reducible rfl))); (try (refine wpAnyL_norm (by simp only [Act.put, List.setIfInBounds_toArray, List.set_cons_zero, List.set_cons_succ]; rfl) ?_))
  refine wpAnyL_take (i := 3) (v := ?_) rfl (by kernel_rfl) (fun _ _ _ h => h) (Or.inl ⟨by rfl, ?_⟩) (by assumption) ?_; rotate_left; (focus (intro w hSw; skip; go_simp; (try with_reducible rfl))); (try (refine wpAnyL_norm (by simp only [Act.put, List.setIfInBounds_toArray, List.set_cons_zero, List.set_cons_succ]; rfl) ?_))
  refine wpAnyL_take (i := 4) (v := ?_) rfl (by kernel_rfl) (fun _ _ _ h => h) (Or.inl ⟨by rfl, ?_⟩) (by assumption) ?_; rotate_left; (focus (intro w hSw; (have cc := (hSw.1.cell o).trans H0.out); go_simp; (try with_reducible rfl))); (try (refine wpAnyL_norm (by simp only [Act.put, List.setIfInBounds_toArray, List.set_cons_zero, List.set_cons_succ]; rfl) ?_))
  refine wpAnyL_take (i := 5) (v := ?_) rfl (by kernel_rfl) (fun _ _ _ h => h) (Or.inl ⟨by rfl, ?_⟩) (by assumption) ?_; rotate_left; (focus (intro w hSw; skip; go_simp; (try with_reducible rfl))); (try (refine wpAnyL_norm (by simp only [Act.put, List.setIfInBounds_toArray, List.set_cons_zero, List.set_cons_succ]; rfl) ?_))
  refine wpAnyL_take (i := 6) rfl (by kernel_rfl) (fun _ _ _ h => h) (yields_load_at 45 (.tmp 3) rfl ⟨w.heap.size, 0, none⟩ rfl [.int .u32 (sa : Int), .int .u32 (sr : Int)] _ (fun W h j v hv => by rw [Go.WideShapes.add_plain, Nat.zero_add, h.2.cell, List.getElem?_toArray]; exact hv) Tryz.underlying45 rfl infoRgS rfl) (by assumption) ?_; (try (refine wpAnyL_norm (by simp only [Act.put, List.setIfInBounds_toArray, List.set_cons_zero, List.set_cons_succ]; rfl) ?_))
  refine wpAnyL_ready (rs := [7]) (by kernel_rfl) (by simp) ?_; refine AllReadyL.cons rfl (fun K hK => ?_) AllReadyL.nil
  rw [if_pos (by rfl)]
  refine wp_buildSl 35 1 _ _ _ _ (builtR _ sa sr) rfl (by kernel_rfl) ?_
  have hf4 : Fr [] w3.drew (w3.drew.alloc (.cells #[.int .u32 (sa : Int), .int .u32 (sr : Int)] 45)) := (by repeat (first | exact Fr.refl _ _ | assumption | refine Fr.trans0 ?_ (by assumption) | refine Fr.drewN ?_ _ | refine Fr.alloc ?_ _ | refine Fr.drew ?_))
  refine hK.out _ _ (fun _ => ⟨hHeld.1.fr hf4 (by simp), hHeld.2.fr hf4 (by simp)⟩) (fun hHeld' => ?_); have hHeld := hHeld' (by decide); clear hHeld' hK K; (try (refine wpAnyL_norm (by simp only [Act.put, List.setIfInBounds_toArray, List.set_cons_zero, List.set_cons_succ]; rfl) ?_))
  have N4 := Lib.hid (At.new w3.drew 45 #[.int .u32 (sa : Int), .int .u32 (sr : Int)])
  have hf4' : Fr [] w3 (w3.drew.alloc (.cells #[.int .u32 (sa : Int), .int .u32 (sr : Int)] 45)) := (Fr.refl [] w3).drew.trans0 hf4
  have O4 := Lib.hid (own_fr0 OV.out hf4')
  have F4 := Lib.hid (S3.out.1.trans0 hf4')
  obtain ⟨w4, hw4⟩ : ∃ W, w3.drew.alloc (.cells #[.int .u32 (sa : Int), .int .u32 (sr : Int)] 45) = W := ⟨_, rfl⟩
  rw [hw4] at N4 O4 F4 hHeld
  rw [hw4]
  have hs3 := S3.out.1.size
  have hqs : w.heap.size ≤ w3.drew.heap.size := hs3
  clear hf4 hf4' hw4
  refine wpAnyL_ready (rs := [8]) (by kernel_rfl) (by simp) ?_; refine AllReadyL.cons rfl (fun K hK => ?_) AllReadyL.nil
  go_simp
  refine (HIN.out w4 v w3.drew.heap.size N4.out O4.out k HPL.out.1 (fun g hg => by have := HVL.out g hg; omega)).mono ?_
  rintro e w5 ⟨v', rfl, ho5, hf5, hv5⟩
  obtain ⟨va', vc', rfl, hvc'⟩ := own_slice ho5
  have ny : y ∉ v.ownBlock.toList := own_toList O4.out hHeld.1 (by decide)
  have nB : w.heap.size ∉ v.ownBlock.toList := fun hm => by
    cases hv : v.ownBlock with
    | none => rw [hv] at hm; simp at hm
    | some g => rw [hv] at hm; simp at hm; have := HVL.out g hv; omega
  refine hK.out _ _ (fun _ => ⟨hHeld.1.fr hf5 ny, hHeld.2.fr hf5 nB⟩) (fun hHeld' => ?_); have hHeld := hHeld' (by decide); clear hHeld' hK K; (try (refine wpAnyL_norm (by simp only [Act.put, List.setIfInBounds_toArray, List.set_cons_zero, List.set_cons_succ]; rfl) ?_))
  refine wpAnyL_take (i := 9) (v := ?_) rfl (by kernel_rfl) (fun _ _ _ h => h) (Or.inl ⟨by rfl, ?_⟩) (by assumption) ?_; rotate_left; (focus (intro w hSw; skip; go_simp; (try with_reducible rfl))); (try (refine wpAnyL_norm (by simp only [Act.put, List.setIfInBounds_toArray, List.set_cons_zero, List.set_cons_succ]; rfl) ?_))
  refine wpAnyL_take (i := 10) (v := ?_) rfl (by kernel_rfl) (fun _ _ _ h => h) (Or.inl ⟨by rfl, ?_⟩) (by assumption) ?_; rotate_left; (focus (intro w hSw; skip; go_simp; (try with_reducible rfl))); (try (refine wpAnyL_norm (by simp only [Act.put, List.setIfInBounds_toArray, List.set_cons_zero, List.set_cons_succ]; rfl) ?_))
  have cc := (hHeld.1.cell o).trans H0.out
  have zz := hHeld.1.froz o
  refine wpAnyL_ready (rs := [11]) (by kernel_rfl) (by simp) ?_; refine AllReadyL.cons rfl (fun K hK => ?_) AllReadyL.nil
  go_simp
  refine hK.out _ _ (fun h => (h (by decide)).elim) (fun _ => ?_); clear hK K; (try (refine wpAnyL_norm (by simp only [Act.put, List.setIfInBounds_toArray, List.set_cons_zero, List.set_cons_succ]; rfl) ?_))
  refine wpAnyL_done (by kernel_rfl) ?_ _
  obtain ⟨n1, n2, n3⟩ := Pt.apart H.out.pt HY.out
  obtain ⟨m1, m2, m3⟩ := H.out.apart
  have hst : Fr [y] w5 (w5.setCell ⟨y, o, none⟩ (.slice va' (l.length + 1) vc')) := (Fr.refl _ _).set (.inl (by simp)) _
  have f56 : Fr (y :: v.ownBlock.toList) w4 (w5.setCell ⟨y, o, none⟩ (.slice va' (l.length + 1) vc')) := (hf5.more (T := y :: v.ownBlock.toList) (fun k hk => .inl (List.mem_cons_of_mem _ hk))).trans hst (fun k hk => .inl (by simp at hk; rw [hk]; exact List.mem_cons_self))
  have a1 : a ∉ y :: v.ownBlock.toList := by simp only [List.mem_cons, not_or]; exact ⟨n1, m1⟩
  have a2 : b ∉ y :: v.ownBlock.toList := by simp only [List.mem_cons, not_or]; exact ⟨n2, m2⟩
  have a3 : c ∉ y :: v.ownBlock.toList := by simp only [List.mem_cons, not_or]; exact ⟨n3, m3⟩
  have P6 := Lib.hid ((H.out.pt.fr F4.out (by simp) (by simp) (by simp)).fr f56 a1 a2 a3)
  have F6 := Lib.hid ((F4.out.more (T := y :: v.ownBlock.toList) (by simp)).trans f56 (fun k hk => .inl hk))
  have Y6 := Lib.hid (hHeld.1.set o (.slice va' (l.length + 1) vc'))
  have B6 := Lib.hid (hHeld.2.far (a := ⟨y, o, none⟩) (show w.heap.size ≠ y by omega) (.slice va' (l.length + 1) vc'))
  have O6 := Lib.hid (own_fr ho5 hst (fun g hg => by have := own_ne ho5 hHeld.1 (by decide) g hg; simpa using this))
  have HV5 := Lib.hid hv5
  obtain ⟨w6, hw6⟩ : ∃ W, w5.setCell ⟨y, o, none⟩ (.slice va' (l.length + 1) vc') = W := ⟨_, rfl⟩
  rw [hw6] at P6 F6 Y6 B6 O6 ⊢
  have hs4 := F4.out.size
  clear hw6 hst f56 ho5 hf5 hv5 hHeld cc zz ny nB O4 N4 OV S3 n1 n2 n3 m1 m2 m3
  have H1' := Lib.hid (show (cs.setIfInBounds o (.slice va' (l.length + 1) vc'))[o + 1]? = some (.pointer (some ⟨a, 0, none⟩)) by rw [Array.getElem?_setIfInBounds_ne (by omega)]; exact H1.out)
  have CP := Lib.hid fun (W : World) (hW : Fr [] w6 W) => ptadd_any W a b c n (cov l) (P6.out.fr hW (by simp) (by simp) (by simp)) (sa : Int) (sr : Int) (by omega) (by omega) (by omega) (by omega)
  have hpi := HPA.out k
  rw [hpi.1, hpi.2] at CP
  clear hpi
  go_wp2_with fail
  refine wp_region_L (fun W => Fr [] w6 W ∧ At W y 119 (cs.setIfInBounds o (.slice va' (l.length + 1) vc')) ∧ At W w.heap.size 45 #[.int .u32 (sa : Int), .int .u32 (sr : Int)]) [5] (by kernel_rfl) ⟨(Fr.refl _ _).drew, Y6.out.hp rfl, B6.out.hp rfl⟩ (fun hHeld => ?_)
  refine wpAnyL_take (i := 0) (v := ?_) rfl (by kernel_rfl) (fun _ _ _ h => h) (Or.inl ⟨by rfl, ?_⟩) (by assumption) ?_; rotate_left; (focus (intro w hSw; skip; go_simp; (try with_reducible rfl))); (try (refine wpAnyL_norm (by simp only [Act.put, List.setIfInBounds_toArray, List.set_cons_zero, List.set_cons_succ]; rfl) ?_))
  refine wpAnyL_take (i := 1) (v := ?_) rfl (by kernel_rfl) (fun _ _ _ h => h) (Or.inl ⟨by rfl, ?_⟩) (by assumption) ?_; rotate_left; (focus (intro w hSw; skip; go_simp; (try with_reducible rfl))); (try (refine wpAnyL_norm (by simp only [Act.put, List.setIfInBounds_toArray, List.set_cons_zero, List.set_cons_succ]; rfl) ?_))
  refine wpAnyL_take (i := 2) (v := ?_) rfl (by kernel_rfl) (fun _ _ _ h => h) (Or.inl ⟨by rfl, ?_⟩) (by assumption) ?_; rotate_left; (focus (intro w hSw; skip; go_simp; (try with_reducible rfl))); (try (refine wpAnyL_norm (by simp only [Act.put, List.setIfInBounds_toArray, List.set_cons_zero, List.set_cons_succ]; rfl) ?_))
  refine wpAnyL_take (i := 3) (v := ?_) rfl (by kernel_rfl) (fun _ _ _ h => h) (Or.inl ⟨by rfl, ?_⟩) (by assumption) ?_; rotate_left; (focus (intro w hSw; (have cc := (hSw.2.1.cell (o + 1)).trans H1'.out); go_simp; (try with_reducible rfl))); (try (refine wpAnyL_norm (by simp only [Act.put, List.setIfInBounds_toArray, List.set_cons_zero, List.set_cons_succ]; rfl) ?_))
  refine wpAnyL_take (i := 4) rfl (by kernel_rfl) (fun _ _ _ h => h) (yields_load_at 45 (.tmp 3) rfl ⟨w.heap.size, 0, none⟩ rfl [.int .u32 (sa : Int), .int .u32 (sr : Int)] _ (fun W h j v hv => by rw [Go.WideShapes.add_plain, Nat.zero_add, h.2.2.cell, List.getElem?_toArray]; exact hv) Tryz.underlying45 rfl infoRgS rfl) (by assumption) ?_; (try (refine wpAnyL_norm (by simp only [Act.put, List.setIfInBounds_toArray, List.set_cons_zero, List.set_cons_succ]; rfl) ?_))
  refine wpAnyL_ready (rs := [5]) (by kernel_rfl) (by simp) ?_; refine AllReadyL.cons rfl (fun K hK => ?_) AllReadyL.nil
  go_simp
  refine (CP.out _ hHeld.1).mono ?_
  rintro e w7 ⟨rfl, hp7, hf7⟩
  refine hK.out _ _ (fun h => (h (by decide)).elim) (fun _ => ?_); clear hK K; (try (refine wpAnyL_norm (by simp only [Act.put, List.setIfInBounds_toArray, List.set_cons_zero, List.set_cons_succ]; rfl) ?_))
  refine wpAnyL_done (by kernel_rfl) ?_ _
  go_wp2_with fail
  go_end0
  have hf7' : Fr [c] w6 w7 := ((hHeld.1).more (T := [c]) (by simp)).trans hf7 (fun k hk => .inl hk)
  have P6o := P6.out
  obtain ⟨n1, n2, n3⟩ := Pt.apart P6o Y6.out
  obtain ⟨-, -, ⟨_, hcc⟩⟩ := Pt.blocks P6o
  refine ⟨⟨_, rfl⟩, .slice va' (l.length + 1) vc', k, HPL.out, Y6.out.fr hf7' (by simpa using fun h => n3 h.symm), ⟨?_, hp7, HGI.out k HPL.out⟩, ?_, fun g hg => ?_⟩
  · rw [HIL.out k HPL.out.1]
    exact own_fr O6.out hf7' (fun g hg => by have := own_ne O6.out hcc (by decide) g hg; simpa using this)
  · refine (F6.out.more (T := y :: c :: v.ownBlock.toList) (fun k hk => .inl ?_)).trans hf7' (fun k hk => .inl ?_)
    · rcases List.mem_cons.1 hk with rfl | hk
      · exact List.mem_cons_self
      · exact List.mem_cons_of_mem _ (List.mem_cons_of_mem _ hk)
    · simp at hk; rw [hk]; exact List.mem_cons_of_mem _ List.mem_cons_self
  · rcases HV5.out g hg with h | h
    · exact .inl h
    · exact .inr (by omega)
end Go.Proofs.YthjbnbimfpbccaaGreatDoor
