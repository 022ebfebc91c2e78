/-
  A paint's region is painted or taken away: what change computes. Condition: at most 16384 granules.
-/



import Derived.Test.YtilgklpponaoeaaPaint
import Derived.Test.YtilgklpponaoeaaRange
import Derived.Deep.RegionHeld3
set_option linter.unusedVariables false
namespace Go.Proofs.Ytilgklpponaoeaa
open Go.ChangeShapes Go.WideShapes Go.ChangeAt Go.RowKit
attribute [local go_sem] Oper.semAt_some
theorem Tg.atK {W W' : World} {p g n : Nat} {f : Nat → Bool} (h : Tg W p g n f) (k : AtK W W') : Tg W' p g n f := by
  obtain ⟨h1, h2, h3, c, cs, h4, h5, h6, h7⟩ := h
  exact ⟨h1, h2, h3, c, cs, h4, k _ _ _ h5, k _ _ _ h6, h7⟩
theorem Pt.atK {W W' : World} {pp p g n : Nat} {f : Nat → Bool} (h : Pt W pp p g n f) (k : AtK W W') : Pt W' pp p g n f := ⟨k _ _ _ h.1, h.2.1.atK k, h.2.2⟩
theorem Tg.atg {w : World} {p g n : Nat} {f : Nat → Bool} (h : Tg w p g n f) : ∃ t cs, At w g t cs := by
  obtain ⟨h1, h2, h3, c, cs, h4, h5, h6, h7⟩ := h
  exact ⟨_, _, h6⟩
/-- A granule of a region. -/
abbrev Gr (A R : Nat) := { x : Nat // A ≤ x ∧ x < A + R }
def AllG (A R : Nat) (xs : List (Gr A R)) : Prop := ∀ i, A ≤ i → i < A + R → ∃ y ∈ xs, y.1 = i
theorem gran_stops (n A R q : Nat) (hA : A + R ≤ 16777216) (w : World) (hq : At w q 70 #[.int .u32 (16 * A : Nat), .int .u32 (16 * R : Nat)]) :
    SeqStopsK Fence.wide n Try.prog 105 #[.pointer (some ⟨q, 0, none⟩)] (fun x : Gr A R => #[.int .i64 (x.1 : Nat)]) (KpAt q) (AllG A R) (fun _ => True) R w := fun l J Jx W hb hJ hJx hY h0 => by
  have hqW : At W q 70 #[.int .u32 (16 * A : Nat), .int .u32 (16 * R : Nat)] := (hb.block q hq.lt).trans hq
  have Hq := Lib.hid hqW
  have c0 := hqW.cell 0
  have c1 := hqW.cell 1
  simp only [List.getElem?_toArray, List.getElem?_cons_zero, List.getElem?_cons_succ] at c0 c1
  have HY := Lib.hid hY
  clear hq hb hqW hY
  refine callsIn_of_wp Try.func105 rfl trivial ?_ rfl
  simp only [Try.ntmps105, List.size_toArray, List.length_cons, List.length_nil, Nat.reduceAdd, Nat.reduceSub, Array.replicate_succ, Array.replicate_zero, List.push_toArray, List.append_toArray, List.nil_append, List.cons_append]
  gi_wp2
  gi_loopw [3] (fun v wr => ∃ pre : List (Gr A R), pre.length ≤ R ∧ v = .int .u64 ((16 * (A + pre.length) : Nat) : Int) ∧ (∀ i, A ≤ i → i < A + pre.length → ∃ y ∈ pre, y.1 = i) ∧ J pre wr ∧ At wr q 70 #[.int .u32 (16 * A : Nat), .int .u32 (16 * R : Nat)]) (fun v _ => 16 * (A + R) - (intOf v).toNat)
  case atStart => exact ⟨[], by simp, by simp, fun i h1 h2 => by simp at h2; omega, h0, Hq.out⟩
  case round =>
    obtain ⟨pre, hpl, rfl, hall, hj, hqr⟩ := hrel
    have c0 := hqr.cell 0
    have c1 := hqr.cell 1
    simp only [List.getElem?_toArray, List.getElem?_cons_zero, List.getElem?_cons_succ] at c0 c1
    have HA := Lib.hid hall
    have HQ := Lib.hid hqr
    clear hall hqr
    by_cases hlt : pre.length < R
    · obtain ⟨fn, tmps, assign, body, hy, hR⟩ := HY.out pre ⟨A + pre.length, by omega, by omega⟩ wr hj hlt
      dsimp only at hy
      have HR := Lib.hid hR
      clear hR hj
      obtain ⟨c, hc⟩ : ∃ c, A + pre.length = c := ⟨_, rfl⟩
      rw [hc] at hy ⊢
      have hc16 : ((16 * c : Nat) : Int) / 16 = c := by omega
      have hc17 : ((16 * c : Nat) : Int) + 16 = ((16 * (c + 1) : Nat) : Int) := by omega
      have hlt2 : ((16 * c : Nat) : Int) < ((16 * A : Nat) : Int) + ((16 * R : Nat) : Int) := by omega
      have hcb : c ≤ 16777216 := by omega
      have HC := Lib.hid hc
      clear hc
      gi_wp2
      refine ⟨fun h => (by cases h), HR.out.mono ?_⟩
      rintro e W3 (⟨rfl, hJ3, hk3⟩ | ⟨rfl, hJx3⟩)
      · have hq3 := hk3 _ _ HQ.out
        gi_wp2
        go_roundw
        case rel =>
          refine ⟨pre ++ [⟨A + pre.length, by omega, by omega⟩], by simp; omega, by congr 1; simp; have := HC.out; omega, fun i h1 h2 => ?_, hJ3, hq3⟩
          by_cases e : i < A + pre.length
          · obtain ⟨y, hy, he⟩ := HA.out i h1 e
            exact ⟨y, by simp [hy], he⟩
          · exact ⟨⟨A + pre.length, by omega, by omega⟩, by simp, by simp at h2 ⊢; omega⟩
        case measure => simp [intOf]; omega
      · gi_wp2
        refine bodyPost_ret (results_none rfl _ _ _) rfl ?_
        exact ⟨⟨_, rfl⟩, .inr ⟨_, trivial, hJx3⟩⟩
    · gi_wp2
      go_end0
      exact ⟨⟨_, rfl⟩, .inl ⟨pre, fun i h1 h2 => HA.out i h1 (by omega), hj⟩⟩
theorem ptchg_nil (w : World) (a s : Int) (to : Bool) :
    Calls Try.prog 63 #[.pointer none, .agg #[.int .u32 a, .int .u32 s], .bool to] w fun r w' => r = .returned (.bool false) ∧ Fr [] w w' := by
  go_enter Try.func63, Try.ntmps63
  go_wp2_with (go_at_call 86; refine (ptnone_nil _).mono ?_; rintro e w' ⟨rfl, rfl⟩)
  refine bodyPost_ret (v := .bool false) (by simp [results, Try.results63, go_sem]) rfl ⟨rfl, ?_⟩
  exact (by repeat (first | exact Fr.refl _ _ | assumption | refine Fr.trans0 ?_ (by assumption) | refine Fr.drewN ?_ _ | refine Fr.alloc ?_ _ | refine Fr.drew ?_))
theorem chg_test (n : Nat) (a s : Int) (hn : n ≤ 16384) (ha : 0 ≤ a) (hs : 0 ≤ s) :
    allB [(a.tmod 16 == 0), (s.tmod 16 == 0), decide (0 < s), decide (a + s ≤ IntKind.u64.wrap (IntKind.u64.wrap (n : Int) * 16))] = decide (a % 16 = 0 ∧ s % 16 = 0 ∧ 0 < s ∧ a + s ≤ 16 * n) := by
  have h1 : IntKind.u64.wrap (n : Int) = n := wrap_nat n (by omega)
  have h2 : IntKind.u64.wrap ((n : Int) * 16) = n * 16 := wrap_nat (n * 16) (by omega)
  rw [h1, h2, Int.tmod_eq_emod_of_nonneg ha, Int.tmod_eq_emod_of_nonneg hs, Bool.eq_iff_iff]
  simp [allB]
  omega
/-- What the function's own boxes hold. -/
def Boxes (w : World) (pp p : Nat) (a s : Int) (to r : Bool) (W : World) : Prop :=
  At W w.heap.size 51 #[.pointer (some ⟨pp, 0, none⟩)] ∧ At W (w.heap.size + 1) 70 #[.int .u32 a, .int .u32 s] ∧ At W (w.heap.size + 1 + 1) 4 #[.bool to] ∧ At W (w.heap.size + 1 + 1 + 1) 4 #[.bool r] ∧ At W pp 117 #[.pointer (some ⟨p, 0, none⟩)]
theorem boxes_start (w : World) (pp p : Nat) (a s : Int) (to : Bool) (h : At w pp 117 #[.pointer (some ⟨p, 0, none⟩)]) : Boxes w pp p a s to false ((((w.alloc (.cells #[.pointer (some ⟨pp, 0, none⟩)] 51)).alloc (.cells #[.int .u32 a, .int .u32 s] 70)).alloc (.cells #[.bool to] 4)).alloc (.cells #[.bool false] 4)) := by
  have b0 := At.new w 51 #[.pointer (some ⟨pp, 0, none⟩)]
  have b1 := At.new (w.alloc (.cells #[.pointer (some ⟨pp, 0, none⟩)] 51)) 70 #[.int .u32 a, .int .u32 s]
  have b2 := At.new ((w.alloc (.cells #[.pointer (some ⟨pp, 0, none⟩)] 51)).alloc (.cells #[.int .u32 a, .int .u32 s] 70)) 4 #[.bool to]
  have b3 := At.new (((w.alloc (.cells #[.pointer (some ⟨pp, 0, none⟩)] 51)).alloc (.cells #[.int .u32 a, .int .u32 s] 70)).alloc (.cells #[.bool to] 4)) 4 #[.bool false]
  simp only [World.size_alloc] at b1 b2 b3
  exact ⟨((b0.old _).old _).old _, (b1.old _).old _, b2.old _, b3, (((h.old _).old _).old _).old _⟩
theorem Boxes.fr {w W V : World} {pp p : Nat} {a s : Int} {to r : Bool} {S : List Nat} (h : Boxes w pp p a s to r W) (f : Fr S W V) (hpp : pp ∉ S) (hz : ∀ k ∈ S, k < w.heap.size) : Boxes w pp p a s to r V :=
  ⟨h.1.fr f (fun x => by have := hz _ x; omega), h.2.1.fr f (fun x => by have := hz _ x; omega), h.2.2.1.fr f (fun x => by have := hz _ x; omega), h.2.2.2.1.fr f (fun x => by have := hz _ x; omega), h.2.2.2.2.fr f hpp⟩
theorem Boxes.setr {w W : World} {pp p : Nat} {a s : Int} {to r : Bool} (h : Boxes w pp p a s to r W) (r' : Bool) (hpp : pp < w.heap.size) : Boxes w pp p a s to r' (W.setCell ⟨w.heap.size + 1 + 1 + 1, 0, none⟩ (.bool r')) :=
  ⟨h.1.far (show w.heap.size ≠ w.heap.size + 1 + 1 + 1 by omega) _, h.2.1.far (show w.heap.size + 1 ≠ w.heap.size + 1 + 1 + 1 by omega) _, h.2.2.1.far (show w.heap.size + 1 + 1 ≠ w.heap.size + 1 + 1 + 1 by omega) _, h.2.2.2.1.set 0 (.bool r'), h.2.2.2.2.far (show pp ≠ w.heap.size + 1 + 1 + 1 by omega) _⟩
theorem Boxes.cells {w W : World} {pp p : Nat} {a s : Int} {to r : Bool} (h : Boxes w pp p a s to r W) :
    (W.cell? ⟨pp, 0, none⟩ = some (.pointer (some ⟨p, 0, none⟩)) ∧ W.cell? ⟨w.heap.size, 0, none⟩ = some (.pointer (some ⟨pp, 0, none⟩))) ∧ W.cell? ⟨w.heap.size + 1, 0, none⟩ = some (.int .u32 a) ∧ W.cell? ⟨w.heap.size + 1, 1, none⟩ = some (.int .u32 s) :=
  ⟨⟨h.2.2.2.2.cell 0, h.1.cell 0⟩, h.2.1.cell 0, h.2.1.cell 1⟩
theorem Boxes.rest {w W : World} {pp p : Nat} {a s : Int} {to r : Bool} (h : Boxes w pp p a s to r W) :
    W.cell? ⟨w.heap.size + 1 + 1, 0, none⟩ = some (.bool to) ∧ W.cell? ⟨w.heap.size + 1 + 1 + 1, 0, none⟩ = some (.bool r) ∧ W.frozen? ⟨w.heap.size + 1 + 1 + 1, 0, none⟩ = false :=
  ⟨h.2.2.1.cell 0, h.2.2.2.1.cell 0, h.2.2.2.1.froz 0⟩
theorem ptchg_bad (w : World) (pp p g n : Nat) (f : Nat → Bool) (h : Pt w pp p g n f) (a s : Int) (to : Bool) (ha : 0 ≤ a) (ha2 : a ≤ 4294967295) (hs : 0 ≤ s) (hs2 : s ≤ 4294967295) (hb : ¬ (a % 16 = 0 ∧ s % 16 = 0 ∧ 0 < s ∧ a + s ≤ 16 * n)) :
    Calls Try.prog 63 #[.pointer (some ⟨pp, 0, none⟩), .agg #[.int .u32 a, .int .u32 s], .bool to] w fun r w' => r = .returned (.bool false) ∧ Fr [] w w' := by
  have hn := h.2.2.2.2
  have H := Lib.hid h
  have HB := Lib.hid hb
  have BS := Lib.hid (boxes_start w pp p a s to h.1)
  have hf0 : Hid (Fr [] w ((((w.alloc (.cells #[.pointer (some ⟨pp, 0, none⟩)] 51)).alloc (.cells #[.int .u32 a, .int .u32 s] 70)).alloc (.cells #[.bool to] 4)).alloc (.cells #[.bool false] 4))) := Lib.hid (by repeat (first | exact Fr.refl _ _ | assumption | refine Fr.trans0 ?_ (by assumption) | refine Fr.drewN ?_ _ | refine Fr.alloc ?_ _ | refine Fr.drew ?_))
  clear h hb
  go_enter Try.func63, Try.ntmps63
  go_wp2_with (go_at_call 86; refine (ptnone_any _ pp p g n f (H.out.fr hf0.out (by simp) (by simp) (by simp))).mono ?_; rintro e w' ⟨rfl, rfl⟩)
  obtain ⟨W, hW⟩ : ∃ W, (((w.alloc (.cells #[.pointer (some ⟨pp, 0, none⟩)] 51)).alloc (.cells #[.int .u32 a, .int .u32 s] 70)).alloc (.cells #[.bool to] 4)).alloc (.cells #[.bool false] 4) = W := ⟨_, rfl⟩
  rw [hW] at BS hf0 ⊢
  have hL := Lib.hid fun (V : World) (hV : V.heap = W.heap) => len_any V p g n f ((H.out.fr hf0.out (by simp) (by simp) (by simp)).heap hV).2.1
  have d0 := BS.out.cells
  have hAll : Hid (allB [(a.tmod 16 == 0), (s.tmod 16 == 0), decide (0 < s), decide (a + s ≤ IntKind.u64.wrap (IntKind.u64.wrap (n : Int) * 16))] = false) := Lib.hid (by
    rw [chg_test n a s hn ha hs]
    exact decide_eq_false HB.out)
  clear hW
  go_region_held3 (fun w' => (w'.cell? ⟨pp, 0, none⟩ = some (.pointer (some ⟨p, 0, none⟩)) ∧ w'.cell? ⟨w.heap.size, 0, none⟩ = some (.pointer (some ⟨pp, 0, none⟩))) ∧ w'.cell? ⟨w.heap.size + 1, 0, none⟩ = some (.int .u32 a) ∧ w'.cell? ⟨w.heap.size + 1, 1, none⟩ = some (.int .u32 s)) (first | exact d0 | exact d6 | go_keep) (first | (go_at_call 88; refine Calls.mono (hL.out _ (by rfl)) ?_; rintro e w5 ⟨rfl, rfl⟩) | (go_at_call 87; refine Calls.mono (all_any _ _ [(a.tmod 16 == 0), (s.tmod 16 == 0), decide (0 < s), decide (a + s ≤ IntKind.u64.wrap (IntKind.u64.wrap (n : Int) * 16))] ((At.new _ _ _).hp (by rfl)) (by simp)) ?_; rw [hAll.out]; rintro e w6 ⟨rfl, h6⟩; have hf6 : Fr [] W w6 := (by rw [← h6]; exact ((Fr.refl _ _).alloc _).drew); have B6 := Lib.hid (BS.out.fr hf6 (by simp) (by simp)); have d6 := B6.out.cells; clear h6))
  have r6 := B6.out.rest
  obtain ⟨r6, r7, r8⟩ := r6
  go_wp2
  refine bodyPost_ret (v := .bool false) (by simp [results, Try.results63, go_sem, r7]) rfl ⟨rfl, ?_⟩
  exact ((hf0.out.trans0 hf6).set (.inr (by show w.heap.size ≤ w.heap.size + 1 + 1 + 1; omega)) _)
theorem Boxes.atK {w W V : World} {pp p : Nat} {a s : Int} {to r : Bool} (h : Boxes w pp p a s to r W) (k : AtK W V) : Boxes w pp p a s to r V :=
  ⟨k _ _ _ h.1, k _ _ _ h.2.1, k _ _ _ h.2.2.1, k _ _ _ h.2.2.2.1, k _ _ _ h.2.2.2.2⟩
def okP (f : Nat → Bool) (A R : Nat) (to : Bool) : Bool := (List.range R).all fun i => f (A + i) != to
theorem okP_yes {f : Nat → Bool} {A R : Nat} {to : Bool} (h : ∀ i, A ≤ i → i < A + R → f i ≠ to) : okP f A R to = true := by
  unfold okP
  rw [List.all_eq_true]
  intro i hi
  have := h (A + i) (by omega) (by simp at hi; omega)
  simpa using this
theorem okP_no {f : Nat → Bool} {A R : Nat} {to : Bool} {i : Nat} (h1 : A ≤ i) (h2 : i < A + R) (h : f i = to) : okP f A R to = false := by
  cases e : okP f A R to with
  | false => rfl
  | true =>
    unfold okP at e
    rw [List.all_eq_true] at e
    have := e (i - A) (by simp; omega)
    rw [show A + (i - A) = i by omega, h] at this
    simp at this
def setP (f : Nat → Bool) (A R : Nat) (to : Bool) : Nat → Bool := fun i => if A ≤ i ∧ i < A + R then to else f i
def setL (f : Nat → Bool) (l : List Nat) (to : Bool) : Nat → Bool := fun i => if i ∈ l then to else f i
theorem setL_nil (f : Nat → Bool) (to : Bool) : setL f [] to = f := funext fun i => by simp [setL]
theorem setL_snoc (f : Nat → Bool) (l : List Nat) (x : Nat) (to : Bool) : upd (setL f l to) x to = setL f (l ++ [x]) to := funext fun i => by
  unfold upd setL
  by_cases e : i = x
  · subst e; simp
  · simp [e]
def valsG {A R : Nat} (l : List (Gr A R)) : List Nat := l.map fun y => y.1
theorem valsG_snoc {A R : Nat} (l : List (Gr A R)) (x : Gr A R) : valsG (l ++ [x]) = valsG l ++ [x.1] := by simp [valsG]
theorem setL_all (f : Nat → Bool) (A R : Nat) (xs : List (Gr A R)) (to : Bool) (h : AllG A R xs) : setL f (valsG xs) to = setP f A R to := funext fun i => by
  unfold setL setP
  by_cases e : A ≤ i ∧ i < A + R
  · obtain ⟨y, hy, he⟩ := h i e.1 e.2
    rw [if_pos e, if_pos (show i ∈ valsG xs from List.mem_map.2 ⟨y, hy, he⟩)]
  · rw [if_neg e, if_neg]
    intro hm
    obtain ⟨y, _, he⟩ := List.mem_map.1 hm
    have := y.2
    omega
def chgF (f : Nat → Bool) (A R : Nat) (to : Bool) : Nat → Bool := if okP f A R to = true then setP f A R to else f
set_option maxHeartbeats 2000000 in
set_option maxRecDepth 100000 in
theorem ptchg_ok (w : World) (pp p g n : Nat) (f : Nat → Bool) (h : Pt w pp p g n f) (A R : Nat) (to : Bool) (hR : 1 ≤ R) (hAR : A + R ≤ n) :
    Calls Try.prog 63 #[.pointer (some ⟨pp, 0, none⟩), .agg #[.int .u32 (16 * A : Nat), .int .u32 (16 * R : Nat)], .bool to] w fun r w' => r = .returned (.bool (okP f A R to)) ∧ Tg w' p g n (chgF f A R to) ∧ Fr [g] w w' := by
  have hn := h.2.2.2.2
  obtain ⟨a, ha⟩ : ∃ a : Int, ((16 * A : Nat) : Int) = a := ⟨_, rfl⟩
  obtain ⟨s, hs⟩ : ∃ s : Int, ((16 * R : Nat) : Int) = s := ⟨_, rfl⟩
  rw [ha, hs]
  have H := Lib.hid h
  have BS := Lib.hid (boxes_start w pp p a s to h.1)
  have hf0 : Hid (Fr [] w ((((w.alloc (.cells #[.pointer (some ⟨pp, 0, none⟩)] 51)).alloc (.cells #[.int .u32 a, .int .u32 s] 70)).alloc (.cells #[.bool to] 4)).alloc (.cells #[.bool false] 4))) := Lib.hid (by repeat (first | exact Fr.refl _ _ | assumption | refine Fr.trans0 ?_ (by assumption) | refine Fr.drewN ?_ _ | refine Fr.alloc ?_ _ | refine Fr.drew ?_))
  have hAll : Hid (allB [(a.tmod 16 == 0), (s.tmod 16 == 0), decide (0 < s), decide (a + s ≤ IntKind.u64.wrap (IntKind.u64.wrap (n : Int) * 16))] = true) := Lib.hid (by
    rw [chg_test n a s hn (by omega) (by omega)]
    exact decide_eq_true (by omega))
  have hasz : 0 ≤ a ∧ a ≤ 262144 ∧ 0 ≤ s ∧ s ≤ 262144 := by omega
  obtain ⟨ha1, ha2, hs1, hs2⟩ := hasz
  have HA := Lib.hid ha
  have HSS := Lib.hid hs
  clear h ha hs
  refine (callsIn_wide (n := 3)).1 ?_
  refine callsIn_of_wp_marks Try.func63 rfl trivial ?_ rfl
  simp only [Try.ntmps63, List.size_toArray, List.length_cons, List.length_nil, Nat.reduceAdd, Nat.reduceSub, Array.replicate_succ, Array.replicate_zero, List.push_toArray, List.append_toArray, List.nil_append, List.cons_append]
  refine wpIn_wide.2 ?_
  go_wp2_with (go_at_call 86; refine (ptnone_any _ pp p g n f (H.out.fr hf0.out (by simp) (by simp) (by simp))).mono ?_; rintro e w' ⟨rfl, rfl⟩)
  obtain ⟨W, hW⟩ : ∃ W, (((w.alloc (.cells #[.pointer (some ⟨pp, 0, none⟩)] 51)).alloc (.cells #[.int .u32 a, .int .u32 s] 70)).alloc (.cells #[.bool to] 4)).alloc (.cells #[.bool false] 4) = W := ⟨_, rfl⟩
  rw [hW] at BS hf0 ⊢
  have hL := Lib.hid fun (V : World) (hV : V.heap = W.heap) => len_any V p g n f ((H.out.fr hf0.out (by simp) (by simp) (by simp)).heap hV).2.1
  have d0 := BS.out.cells
  clear hW
  go_region_held3 (fun w' => (w'.cell? ⟨pp, 0, none⟩ = some (.pointer (some ⟨p, 0, none⟩)) ∧ w'.cell? ⟨w.heap.size, 0, none⟩ = some (.pointer (some ⟨pp, 0, none⟩))) ∧ w'.cell? ⟨w.heap.size + 1, 0, none⟩ = some (.int .u32 a) ∧ w'.cell? ⟨w.heap.size + 1, 1, none⟩ = some (.int .u32 s)) (first | exact d0 | exact d6 | go_keep) (first | (go_at_call 88; refine Calls.mono (hL.out _ (by rfl)) ?_; rintro e w5 ⟨rfl, rfl⟩) | (go_at_call 87; refine Calls.mono (all_any _ _ [(a.tmod 16 == 0), (s.tmod 16 == 0), decide (0 < s), decide (a + s ≤ IntKind.u64.wrap (IntKind.u64.wrap (n : Int) * 16))] ((At.new _ _ _).hp (by rfl)) (by simp)) ?_; rw [hAll.out]; rintro e w6 ⟨rfl, h6⟩; have hf6 : Fr [] W w6 := (by rw [← h6]; exact ((Fr.refl _ _).alloc _).drew); have B6 := Lib.hid (BS.out.fr hf6 (by simp) (by simp)); have d6 := B6.out.cells; clear h6))
  have HF6 := Lib.hid (hf0.out.trans0 hf6)
  clear hf6 d0 d6 hL
  have d6 := B6.out.cells
  go_wp2_with (go_at_call 89; refine (gran_any _ _ _).mono ?_; rintro e w7 ⟨rfl, h7⟩)
  subst h7
  have hq1 := At.new w6 70 #[.int .u32 a, .int .u32 s]
  have B7 := Lib.hid (B6.out.fr (S := []) ((Fr.refl _ _).alloc (.cells #[.int .u32 a, .int .u32 s] 70)) (by simp) (by simp))
  have HF7 := Lib.hid (HF6.out.alloc (.cells #[.int .u32 a, .int .u32 s] 70))
  have hws := HF6.out.size
  have HP7 := Lib.hid (H.out.fr HF7.out (by simp) (by simp) (by simp))
  obtain ⟨q, hq⟩ : ∃ q, w6.heap.size = q := ⟨_, rfl⟩
  obtain ⟨W1, hW1⟩ : ∃ W1, w6.alloc (.cells #[.int .u32 a, .int .u32 s] 70) = W1 := ⟨_, rfl⟩
  have hsz1 : W1.heap.size = q + 1 := by rw [← hW1, ← hq]; simp
  rw [hW1, hq] at hq1
  rw [hW1] at B7 HF7 HP7
  rw [hq] at hws
  rw [hW1, hq]
  have HQ1 := Lib.hid hq1
  rw [← HA.out, ← HSS.out] at hq1
  have HS1 := Lib.hid hsz1
  have hqp := H.out.lt
  clear hW1 hq hsz1 B6 d6 HF6 hws BS hAll hf0
  refine (wpIn_wide (n := 3)).1 ?_
  refine wpIn_rangeFunc_ownF rfl (by omega) (gf := 105) (lb := #[.pointer (some ⟨q, 0, none⟩)]) rfl trivial (enters_of Try.func105 (by kernel_rfl) rfl) (gran_stops _ A R q (by omega) _ hq1) kpAt_t kpAt_b (Below.refl _ _) (fun _ => rfl)
    (fun pre V => (∀ y ∈ pre, f y.1 ≠ to) ∧ Boxes w pp p a s to false V ∧ Pt V pp p g n f ∧ Fr [] w V)
    (fun c pre V => c = .ret ∧ (∃ y ∈ pre, f y.1 = to) ∧ Boxes w pp p a s to false V ∧ Pt V pp p g n f ∧ Fr [] w V)
    (fun x A B row hs hg hr => ⟨hs.1, hs.2.1.atK (atK_grown hg fun r e => (hr r e).2), hs.2.2.1.atK (atK_grown hg fun r e => (hr r e).2), hs.2.2.2.row hg HF7.out.size hr⟩)
    (fun c x A B row hs hg hr => ⟨hs.1, hs.2.1, hs.2.2.1.atK (atK_grown hg fun r e => (hr r e).2), hs.2.2.2.1.atK (atK_grown hg fun r e => (hr r e).2), hs.2.2.2.2.row hg HF7.out.size hr⟩)
    ⟨by simp, B7.out, HP7.out, HF7.out⟩ ?a1 ?assign ?body ?done ?stop
  case assign =>
    intro l x V K hK
    gi_wp2
    exact hK
  case body =>
    rintro l pre x V ⟨hne, hB, hP, hF⟩ _
    have HN := Lib.hid hne
    have HBx := Lib.hid hB
    have HPx := Lib.hid hP
    have d0 := hB.cells
    have d1 := hB.rest
    obtain ⟨d1, d2, d3⟩ := d1
    have hxn : x.1 < n := by have := x.2; omega
    have C := Lib.hid fun (U : World) (hU : U.heap = V.heap) => get_any U p g n f (HPx.out.heap hU).2.1 (x.1 : Nat)
    rw [inR_nat _ _ hxn, Int.toNat_natCast, Bool.true_and] at C
    have hVs := HPx.out.lt
    clear hne hB hP
    cases hfx : (f x.1 == to)
    · have HX := Lib.hid (show f x.1 ≠ to by simpa using hfx)
      clear hxn
      obtain ⟨b, hb⟩ : ∃ b, f x.1 = b := ⟨_, rfl⟩
      rw [hb] at C hfx
      clear hb
      gi_wp2
      refine wpIn_round_quiet (fun ⟨_, _, h⟩ => h) (by kernel_rfl) (by kernel_rfl) (by kernel_rfl) ?_; (repeat (quiet_step ((go_at_call 62; exact q_same (C.out _ (by rfl)))))); refine wpQuiet_nil ?_; intro _ hw'; obtain ⟨nq, hw''⟩ := hw'; subst hw''
      gi_wp2
      have hfd : Fr [] V (V.drewN nq) := (Fr.refl _ _).drewN _
      refine ⟨hfd.keepsFrom (by simp), kpAt_fr hfd (by simp), fun y hy => ?_, HBx.out.fr hfd (by simp) (by simp), HPx.out.fr hfd (by simp) (by simp) (by simp), hF.drewN _⟩
      rcases List.mem_append.1 hy with h | h
      · exact HN.out y h
      · simp at h; subst h; exact HX.out
    · have HX := Lib.hid (show f x.1 = to by simpa using hfx)
      clear hxn
      obtain ⟨b, hb⟩ : ∃ b, f x.1 = b := ⟨_, rfl⟩
      rw [hb] at C hfx
      clear hb
      gi_wp2
      refine wpIn_round_quiet (fun ⟨_, _, h⟩ => h) (by kernel_rfl) (by kernel_rfl) (by kernel_rfl) ?_; (repeat (quiet_step ((go_at_call 62; exact q_same (C.out _ (by rfl)))))); refine wpQuiet_nil ?_; intro _ hw'; obtain ⟨nq, hw''⟩ := hw'; subst hw''
      gi_wp2
      have hfd : Fr [] V (V.drewN nq) := (Fr.refl _ _).drewN _
      have hBd := HBx.out.fr hfd (by simp) (by simp)
      have hfs : Fr [w.heap.size + 1 + 1 + 1] V ((V.drewN nq).setCell ⟨w.heap.size + 1 + 1 + 1, 0, none⟩ (.bool false)) := ((Fr.refl _ _).drewN _).set (.inl (by simp)) _
      refine ⟨hfs.keepsFrom (by simp; exact ⟨_, _, HBx.out.2.2.2.1⟩), rfl, ⟨x, by simp, HX.out⟩, hBd.setr false hqp.1, HPx.out.fr hfs (by simp; omega) (by simp; omega) (by simp; omega), (hF.drewN _).set (.inr (by show w.heap.size ≤ w.heap.size + 1 + 1 + 1; omega)) _⟩
  case stop =>
    rintro D c pre V hD _ ⟨rfl, ⟨y, hy, hyt⟩, hB, hP, hF⟩ hK
    have hfs := HF7.out.size
    gi_wp2
    refine ⟨by simp, .inl ⟨_, _, rfl, run_takeDeferred hK, ?_⟩⟩
    have hk := atK_put (.deferred none) hK rfl
    have hc5 := (hB.atK hk).rest.2.1
    have hno := okP_no y.2.1 y.2.2 hyt
    exact ⟨.bool false, by simp [results, Try.results63, go_sem, hc5], by rw [hno], by unfold chgF; rw [hno]; exact hP.2.1.atK hk, (hF.putObj D _ (by omega)).more (by simp)⟩
  case done =>
    rintro D xs V hD hall ⟨hne, hB, hP, hF⟩ hK
    have hyes : Hid (okP f A R to = true) := Lib.hid (okP_yes fun i h1 h2 => by
      obtain ⟨y, hy, he⟩ := hall i h1 h2
      rw [← he]; exact hne y hy)
    have hDw : w.heap.size ≤ D := by have := HF7.out.size; omega
    have HBx := Lib.hid hB
    have HPx := Lib.hid hP
    have HK := Lib.hid hK
    have d0 := hB.cells
    have d1 := hB.rest
    obtain ⟨d1, d2, d3⟩ := d1
    clear hne hall hB hP hK
    go_wp2_with (go_at_call 89; refine (gran_any _ _ _).mono ?_; rintro e w7 ⟨rfl, h7⟩)
    subst h7
    have hq1 := At.new V 70 #[.int .u32 a, .int .u32 s]
    have hfa : Fr [] V (V.alloc (.cells #[.int .u32 a, .int .u32 s] 70)) := (Fr.refl _ _).alloc _
    have B8 := Lib.hid (HBx.out.fr hfa (by simp) (by simp))
    have HF8 := Lib.hid (hF.alloc (.cells #[.int .u32 a, .int .u32 s] 70))
    have HP8 := Lib.hid (HPx.out.fr hfa (by simp) (by simp) (by simp))
    have HD8 := Lib.hid ((hfa.keep D (Array.getElem?_eq_some_iff.1 HK.out).1 (by simp)).trans HK.out)
    have hDV := (Array.getElem?_eq_some_iff.1 HK.out).1
    have hgV := HPx.out.lt
    obtain ⟨q2, hq⟩ : ∃ q, V.heap.size = q := ⟨_, rfl⟩
    obtain ⟨W2, hW2⟩ : ∃ W2, V.alloc (.cells #[.int .u32 a, .int .u32 s] 70) = W2 := ⟨_, rfl⟩
    have hsz2 : W2.heap.size = q2 + 1 := by rw [← hW2, ← hq]; simp
    rw [hW2, hq] at hq1
    rw [hW2] at B8 HF8 HP8 HD8
    rw [hq] at hDV hgV
    rw [hW2, hq]
    rw [← HA.out, ← HSS.out] at hq1
    have HS2 := Lib.hid hsz2
    clear hW2 hq hsz2 hfa hF d0 d1 d2 d3
    refine (wpIn_wide (n := 3)).1 ?_
    refine wpIn_rangeFunc_ownF rfl (by omega) (gf := 105) (lb := #[.pointer (some ⟨q2, 0, none⟩)]) rfl trivial (enters_of Try.func105 (by kernel_rfl) rfl) (gran_stops _ A R q2 (by omega) _ hq1) kpAt_t kpAt_b (Below.refl _ _) (fun _ => rfl)
      (fun pre V => Boxes w pp p a s to false V ∧ Pt V pp p g n (setL f (valsG pre) to) ∧ V.heap[D]? = some (.deferred (some [])) ∧ Fr [g] w V)
      (fun _ _ _ => False)
      (fun x A B row hs hg hr => ⟨hs.1.atK (atK_grown hg fun r e => (hr r e).2), hs.2.1.atK (atK_grown hg fun r e => (hr r e).2), (hg.block D (Array.getElem?_eq_some_iff.1 hs.2.2.1).1 (fun e => by have := (hr D e.symm).1; have := HS2.out; omega)).trans hs.2.2.1, hs.2.2.2.row hg HF8.out.size hr⟩)
      (fun _ _ _ _ _ hs _ _ => hs)
      ⟨B8.out, by show Pt _ pp p g n (setL f [] to); rw [setL_nil]; exact HP8.out, HD8.out, HF8.out.more (by simp)⟩ ?a2 ?assign2 ?body2 ?done2 ?stop2
    case assign2 =>
      intro l x V K hK
      gi_wp2
      exact hK
    case body2 =>
      rintro l pre x V3 ⟨hB, hP, hD3, hF⟩ _
      have HBx := Lib.hid hB
      have HPx := Lib.hid hP
      have HD3 := Lib.hid hD3
      have d0 := hB.cells
      have d1 := hB.rest
      obtain ⟨d1, d2, d3⟩ := d1
      have hxn : x.1 < n := by have := x.2; omega
      have hq2 : q2 ≠ g := by omega
      have C := Lib.hid fun (U : World) (hU : U.heap = V3.heap) => put_yes U p g n _ (HPx.out.heap hU).2.1 x.1 to hxn
      clear hB hP hD3 hxn
      gi_wp2
      refine wpIn_round_still 6 (fun ⟨_, _, h⟩ => h) (by kernel_rfl) (by kernel_rfl) (by kernel_rfl) ?_; simp only [List.take_succ_cons, List.take_zero, List.drop_succ_cons, List.drop_zero]; (repeat still_step); (try refine wpStill_nil ?_)
      change wpList _ _ _ _ _ V3.drew
      go_wp2_with (go_at_call 38; refine (C.out _ (by rfl)).mono ?_; rintro e V4 ⟨rfl, h4, hf4⟩)
      gi_wp2
      have hf5 : Fr [g] V3 V4 := hf4.hd rfl rfl rfl rfl
      obtain ⟨tg, cg, hag⟩ := HPx.out.2.1.atg
      have hDg := hag.ne HD3.out rfl
      refine ⟨hf5.keepsFrom (by simp; exact ⟨_, _, hag⟩), kpAt_fr hf5 (by simp; omega), HBx.out.fr hf5 (by simp; exact HPx.out.2.2.2.1) (by simp; omega), HPx.out.put hf5 ?_, (hf5.keep D (Array.getElem?_eq_some_iff.1 HD3.out).1 (by simp; omega)).trans HD3.out, hF.trans hf5 (by simp)⟩
      rw [valsG_snoc, ← setL_snoc]
      exact h4
    case done2 =>
      rintro D2 ys V3 hD2 hall ⟨hB, hP, hK1, hF⟩ hK2
      have d1 := hB.rest
      obtain ⟨d1, d2, d3⟩ := d1
      have HBx := Lib.hid hB
      have HPx := Lib.hid hP
      have HK1 := Lib.hid hK1
      have HK2 := Lib.hid hK2
      have HALL := Lib.hid (setL_all f A R ys to hall)
      have hDD : D ≠ D2 := by have := HS2.out; omega
      clear hB hP hK1 hK2 hall
      go_wp2
      have hfs : Fr [w.heap.size + 1 + 1 + 1] V3 (V3.setCell ⟨w.heap.size + 1 + 1 + 1, 0, none⟩ (.bool true)) := (Fr.refl _ _).set (.inl (by simp)) _
      have hko := KeepsOthers.setCell V3 ⟨w.heap.size + 1 + 1 + 1, 0, none⟩ (.bool true)
      have hK2 := hko.same D2 _ HK2.out rfl
      have hK1 := hko.same D _ HK1.out rfl
      have hK1 := (World.putObj_heap_other (w := V3.setCell ⟨w.heap.size + 1 + 1 + 1, 0, none⟩ (.bool true)) (o := .deferred none) hDD).trans hK1
      have hBs := HBx.out.setr true hqp.1
      have hPs := HPx.out.fr hfs (by simp; omega) (by simp; omega) (by simp; omega)
      have hFs := hF.set (a := ⟨w.heap.size + 1 + 1 + 1, 0, none⟩) (.inr (by show w.heap.size ≤ w.heap.size + 1 + 1 + 1; omega)) (.bool true)
      refine ⟨by simp, .inl ⟨_, _, rfl, run_takeDeferred hK2, by simp, .inl ⟨_, _, rfl, run_takeDeferred hK1, ?_⟩⟩⟩
      have hk2 := atK_put (.deferred none) hK2 rfl
      have hk1 := atK_put (.deferred none) hK1 rfl
      have hc5 := ((hBs.atK hk2).atK hk1).rest.2.1
      have hD2w : w.heap.size ≤ D2 := by have := HS2.out; omega
      refine ⟨.bool true, by simp [results, Try.results63, go_sem, hc5], by rw [hyes.out], ?_, (hFs.putObj D2 _ hD2w).putObj D _ hDw⟩
      unfold chgF
      rw [if_pos hyes.out, ← HALL.out]
      exact (hPs.2.1.atK hk2).atK hk1
    case stop2 => exact fun _ _ _ _ _ _ h _ => h.elim
end Go.Proofs.Ytilgklpponaoeaa
