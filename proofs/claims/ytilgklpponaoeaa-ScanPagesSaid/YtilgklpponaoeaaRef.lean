/-
  What the reference of layer 15 computes: a list of truths. Condition: at most 16384 granules.
-/


import Derived.Test.YtilgklpponaoeaaChange
import Derived.Test.YtilgklpponaoeaaLists
set_option linter.unusedVariables false
namespace Go.Proofs.Ytilgklpponaoeaa
open Go.ChangeShapes Go.WideShapes Go.ChangeAt Go.RowKit
theorem infoB : (Try.prog.info? 4).map (fun i => (i.zero, i.size, i.bytes)) = some (some (.bool false), 1, 1) := by kernel_rfl
theorem ret_iib {k l : IntKind} {a b c d : Int} {x : Value} (h : a = c) (g : b = d) : Ending.returned (.tuple #[.int k a, .int l b, x]) = .returned (.tuple #[.int k c, .int l d, x]) := by rw [h, g]
def Bs (b : Nat) (w : World) (v : Value) (n : Nat) (f : Nat → Bool) : Prop := w.ownsRow b 4 1 v n (bls n f)
theorem bls_set (n : Nat) (f : Nat → Bool) (i : Nat) (x : Bool) : (bls n f).set i (.bool x) = bls n (upd f i x) := by
  refine List.ext_getElem? fun j => ?_
  rw [List.getElem?_set]
  by_cases hj : j < n
  · rw [bls_get _ _ _ hj, bls_get _ _ _ hj, bls_len]
    unfold upd
    by_cases e : i = j
    · subst e; simp [hj]
    · rw [if_neg e, if_neg (fun h => e h.symm)]
  · have h1 : ∀ g, (bls n g)[j]? = none := fun g => List.getElem?_eq_none (by rw [bls_len]; omega)
    rw [h1, h1, bls_len]
    by_cases e : i = j
    · subst e; simp [hj]
    · rw [if_neg e]
theorem r15new_no (n : Int) (w : World) (hn : n < 0 ∨ ¬ n % 16 = 0 ∨ 262144 < n) :
    Calls Try.prog 54 #[.int .i64 n] w fun r w' => r = .returned (.tuple #[.agg #[.slice none 0 0], .bool false]) ∧ Fr [] w w' := by
  by_cases h0 : n < 0
  · clear hn
    go_enter Try.func54, Try.ntmps54
    go_wp2
    exact bodyPost_ret (v := .tuple #[.agg #[.slice none 0 0], .bool false]) (by simp [results, Try.results54, go_sem]) rfl ⟨rfl, (by repeat (first | exact Fr.refl _ _ | assumption | refine Fr.trans0 ?_ (by assumption) | refine Fr.drewN ?_ _ | refine Fr.alloc ?_ _ | refine Fr.drew ?_))⟩
  · by_cases h1 : n % 16 = 0
    · have h2 : 262144 < n := by omega
      have h0' : 0 ≤ n := by omega
      have e1 : (n % 16 != 0) = false := by simp; omega
      clear hn h1
      go_enter Try.func54, Try.ntmps54
      go_wp2
      exact bodyPost_ret (v := .tuple #[.agg #[.slice none 0 0], .bool false]) (by simp [results, Try.results54, go_sem]) rfl ⟨rfl, (by repeat (first | exact Fr.refl _ _ | assumption | refine Fr.trans0 ?_ (by assumption) | refine Fr.drewN ?_ _ | refine Fr.alloc ?_ _ | refine Fr.drew ?_))⟩
    · have h0' : 0 ≤ n := by omega
      have e1 : (n % 16 != 0) = true := by simp; omega
      clear hn h1
      go_enter Try.func54, Try.ntmps54
      go_wp2
      exact bodyPost_ret (v := .tuple #[.agg #[.slice none 0 0], .bool false]) (by simp [results, Try.results54, go_sem]) rfl ⟨rfl, (by repeat (first | exact Fr.refl _ _ | assumption | refine Fr.trans0 ?_ (by assumption) | refine Fr.drewN ?_ _ | refine Fr.alloc ?_ _ | refine Fr.drew ?_))⟩
set_option maxRecDepth 100000 in
theorem r15new_yes (n : Nat) (w : World) (hn : n ≤ 16384) :
    Calls Try.prog 54 #[.int .i64 (16 * n : Nat)] w fun r w' => ∃ v, r = .returned (.tuple #[.agg #[v], .bool true]) ∧ Bs w.heap.size w' v n (fun _ => false) ∧ Fr [] w w' := by
  obtain ⟨i0, hi, hz0, hz1, hz2⟩ := info_parts infoB
  obtain ⟨b, hb⟩ : ∃ b, 16 * n = b := ⟨_, rfl⟩
  have e1 : (b : Int) / 16 = n := by omega
  have e2 : ((b : Int) % 16 != 0) = false := by simp; omega
  rw [hb]
  have hb2 : b ≤ 262144 := by omega
  clear hb
  have a0 := (At.new w 53 #[.slice none 0 0]).old (.cells #[.slice none 0 0] 53)
  have a1 := At.new (w.alloc (.cells #[.slice none 0 0] 53)) 53 #[.slice none 0 0]
  rw [World.size_alloc] at a1
  have hf0 : Fr [] w ((w.alloc (.cells #[.slice none 0 0] 53)).alloc (.cells #[.slice none 0 0] 53)) := (by repeat (first | exact Fr.refl _ _ | assumption | refine Fr.trans0 ?_ (by assumption) | refine Fr.drewN ?_ _ | refine Fr.alloc ?_ _ | refine Fr.drew ?_))
  have A0 := Lib.hid a0
  have A1 := Lib.hid a1
  have HF := Lib.hid hf0
  clear a0 a1 hf0
  go_enter Try.func54, Try.ntmps54
  go_wp2
  go_loopw [5] (fun i wr => ∃ (k : Nat) (v : Value), k ≤ n ∧ i = .int .i64 k ∧ At wr w.heap.size 53 #[.slice none 0 0] ∧ At wr (w.heap.size + 1) 53 #[v] ∧ wr.ownsRow (w.heap.size + 1 + 1) 4 1 v k (bls k fun _ => false) ∧ Fr [] w wr) (fun i _ => n - (intOf i).toNat)
  case atStart => exact ⟨0, _, by omega, rfl, A0.out, A1.out, World.ownsRow_nil _ _ _ _, HF.out⟩
  case round =>
    obtain ⟨k, v, hk, rfl, h0, h1, hown, hf⟩ := hrel
    have H0 := Lib.hid h0
    have H1 := Lib.hid h1
    have HO := Lib.hid hown
    have c1 := h1.cell 0
    have c0 := h0.cell 0
    have f1 := h1.froz 0
    have f0 := h0.froz 0
    simp only [List.getElem?_toArray, List.getElem?_cons_zero] at c1 c0
    have hsz := h1.lt
    clear h0 h1 hown
    by_cases hkn : k < n
    · go_wp2_with (at_builtin; refine wpList_append_own_at _ rfl (.tmp 25) (.tmp 26) 32 rfl (w.heap.size + 1 + 1) 4 i0 (.bool false) 1 1 Try.underlying32 hi hz0 hz1 hz2 rfl (by omega) v k (bls k fun _ => false) rfl (HO.out.alloc _) ⟨wr.heap.size, 0, none⟩ 1 1 [.bool false] rfl rfl (cell_one_new _ _ _) (by simp [Value.oneCell']) (by unfold maxLen; omega) (by omega) (by simp; omega) ?_; intro v1 w1 hown1 hg1 hnil1 hat1; obtain ⟨av, cv, rfl, hcv⟩ := own_slice hown1; have hfr := Fr.grown hg1; have n0 := ((H0.out.old (.cells #[.bool false] 4)).fr hfr (own_toList HO.out H0.out (by decide))); have n1 := ((H1.out.old (.cells #[.bool false] 4)).fr hfr (own_toList HO.out H1.out (by decide))); have q1 := n1.cell 0; have q2 := n1.froz 0; have N0 := Lib.hid n0; have N1 := Lib.hid n1; have HO1 := Lib.hid hown1; have hf1 := (hf.alloc (.cells #[.bool false] 4)).app hg1 (HO.out.alloc _) (by omega); clear n0 n1 hfr hown1 hnil1 hat1)
      go_roundw
      case rel =>
        refine ⟨k + 1, _, by omega, by go_num, N0.out.far (show w.heap.size ≠ w.heap.size + 1 by omega) _, N1.out.set 0 _, ?_, hf1.set (.inr (by show w.heap.size ≤ w.heap.size + 1; omega)) _⟩
        rw [← bls_snoc]
        exact own_fr HO1.out ((Fr.refl [w.heap.size + 1] _).set (.inl (by simp)) _) (fun g hg => by simp; exact own_ne HO1.out N1.out (by decide) g hg)
      case measure => simp [intOf]; omega
    · obtain rfl : k = n := by omega
      obtain ⟨av, cv, rfl, hcv⟩ := own_slice HO.out
      go_wp2
      have q0 := (H0.out.set 0 (.slice av k cv)).cell 0
      refine bodyPost_ret (v := .tuple #[.agg #[.slice av k cv], .bool true]) (by simp [results, Try.results54, go_sem, q0]) rfl ⟨_, rfl, ?_, hf.set (.inr (Nat.le_refl _)) _⟩
      refine own_base (own_fr HO.out ((Fr.refl [w.heap.size] _).set (.inl (by simp)) _) (fun g hg => by simp; exact own_ne HO.out H0.out (by decide) g hg)) (by omega)
theorem r15has_any (w : World) (b : Nat) (v : Value) (n : Nat) (f : Nat → Bool) (h : Bs b w v n f) (hn : n ≤ 16384) (a : Int) (ha : 0 ≤ a) (ha2 : a ≤ 4294967295) :
    Calls Try.prog 85 #[.agg #[v], .int .u32 a] w fun r w' => r = .returned (.bool (hasP n f a)) ∧ Fr [] w w' := by
  obtain ⟨av, cv, rfl, hcv⟩ := own_slice h
  by_cases hlt : a / 16 < n
  · obtain ⟨g, c, hv, _, _, hgw, hcl, _⟩ := own_open h (by omega)
    injection hv with hv1 hv2 hv3
    subst hv1 hv3
    have hck := (hcl (a / 16).toNat (by omega)).trans (bls_get n f (a / 16).toNat (by omega))
    have hix : ((a / 16).toNat : Int) = a / 16 := by omega
    obtain ⟨x, hx⟩ : ∃ x, f (a / 16).toNat = x := ⟨_, rfl⟩
    have hr : Hid (hasP n f a = x) := Lib.hid (by unfold hasP inR; rw [hx]; simp; omega)
    rw [hx] at hck
    clear hcl hx h
    go_enter Try.func85, Try.ntmps85
    go_wp2
    go_ret
    exact ⟨ret_bool hr.out.symm, (by repeat (first | exact Fr.refl _ _ | assumption | refine Fr.trans0 ?_ (by assumption) | refine Fr.drewN ?_ _ | refine Fr.alloc ?_ _ | refine Fr.drew ?_))⟩
  · have hr : Hid (hasP n f a = false) := Lib.hid (by unfold hasP inR; simp; omega)
    clear h
    go_enter Try.func85, Try.ntmps85
    go_wp2
    go_ret
    exact ⟨ret_bool hr.out.symm, (by repeat (first | exact Fr.refl _ _ | assumption | refine Fr.trans0 ?_ (by assumption) | refine Fr.drewN ?_ _ | refine Fr.alloc ?_ _ | refine Fr.drew ?_))⟩
theorem r15gran_no (w : World) (b : Nat) (v : Value) (n : Nat) (f : Nat → Bool) (h : Bs b w v n f) (hn : n ≤ 16384) (a s : Int) (ha : 0 ≤ a) (ha2 : a ≤ 4294967295) (hs : 0 ≤ s) (hs2 : s ≤ 4294967295) (hb : ¬ (a % 16 = 0 ∧ s % 16 = 0 ∧ 0 < s ∧ a + s ≤ 16 * n)) :
    Calls Try.prog 102 #[.agg #[v], .agg #[.int .u32 a, .int .u32 s]] w fun r w' => r = .returned (.tuple #[.int .i64 0, .int .i64 0, .bool false]) ∧ Fr [] w w' := by
  obtain ⟨av, cv, rfl, hcv⟩ := own_slice h
  clear h
  by_cases h1 : a % 16 = 0
  · have e1 : (a % 16 != 0) = false := by simp; omega
    by_cases h2 : s % 16 = 0
    · have e2 : (s % 16 != 0) = false := by simp; omega
      by_cases h3 : s = 0
      · subst h3
        clear hb h1 h2
        go_enter Try.func102, Try.ntmps102
        go_wp2
        go_ret3
        exact ⟨rfl, (by repeat (first | exact Fr.refl _ _ | assumption | refine Fr.trans0 ?_ (by assumption) | refine Fr.drewN ?_ _ | refine Fr.alloc ?_ _ | refine Fr.drew ?_))⟩
      · have e3 : (s == 0) = false := by simp; omega
        have h4 : (n : Int) * 16 < a + s := by omega
        clear hb h1 h2 h3
        go_enter Try.func102, Try.ntmps102
        go_wp2
        go_ret3
        exact ⟨rfl, (by repeat (first | exact Fr.refl _ _ | assumption | refine Fr.trans0 ?_ (by assumption) | refine Fr.drewN ?_ _ | refine Fr.alloc ?_ _ | refine Fr.drew ?_))⟩
    · have e2 : (s % 16 != 0) = true := by simp; omega
      clear hb h1 h2
      go_enter Try.func102, Try.ntmps102
      go_wp2
      go_ret3
      exact ⟨rfl, (by repeat (first | exact Fr.refl _ _ | assumption | refine Fr.trans0 ?_ (by assumption) | refine Fr.drewN ?_ _ | refine Fr.alloc ?_ _ | refine Fr.drew ?_))⟩
  · have e1 : (a % 16 != 0) = true := by simp; omega
    clear hb h1
    go_enter Try.func102, Try.ntmps102
    go_wp2
    go_ret3
    exact ⟨rfl, (by repeat (first | exact Fr.refl _ _ | assumption | refine Fr.trans0 ?_ (by assumption) | refine Fr.drewN ?_ _ | refine Fr.alloc ?_ _ | refine Fr.drew ?_))⟩
theorem r15gran_yes (w : World) (b : Nat) (v : Value) (n : Nat) (f : Nat → Bool) (h : Bs b w v n f) (hn : n ≤ 16384) (a s : Int) (A R : Nat) (ha : a = (16 * A : Nat)) (hs : s = (16 * R : Nat)) (hR : 1 ≤ R) (hAR : A + R ≤ n) :
    Calls Try.prog 102 #[.agg #[v], .agg #[.int .u32 a, .int .u32 s]] w fun r w' => r = .returned (.tuple #[.int .i64 A, .int .i64 (A + R : Nat), .bool true]) ∧ Fr [] w w' := by
  obtain ⟨av, cv, rfl, hcv⟩ := own_slice h
  clear h
  have e1 : (a % 16 != 0) = false := by simp; omega
  have e2 : (s % 16 != 0) = false := by simp; omega
  have e3 : (s == 0) = false := by simp; omega
  have h4 : ¬ (n : Int) * 16 < a + s := by omega
  have h5 : 0 ≤ a ∧ a ≤ 262144 ∧ 0 ≤ s ∧ s ≤ 262144 := by omega
  obtain ⟨h5, h6, h7, h8⟩ := h5
  have h9 := Lib.hid (show a / 16 = A ∧ (a + s) / 16 = (A + R : Nat) by omega)
  clear ha hs
  go_enter Try.func102, Try.ntmps102
  go_wp2
  go_ret3
  exact ⟨ret_iib h9.out.1 h9.out.2, (by repeat (first | exact Fr.refl _ _ | assumption | refine Fr.trans0 ?_ (by assumption) | refine Fr.drewN ?_ _ | refine Fr.alloc ?_ _ | refine Fr.drew ?_))⟩
theorem okP_zero (f : Nat → Bool) (A : Nat) (to : Bool) : okP f A 0 to = true := rfl
theorem okP_succ (f : Nat → Bool) (A t : Nat) (to : Bool) : okP f A (t + 1) to = (okP f A t to && (f (A + t) != to)) := by
  unfold okP
  rw [List.range_succ, List.all_append]
  simp
theorem setP_zero (f : Nat → Bool) (A : Nat) (to : Bool) : setP f A 0 to = f := funext fun i => by unfold setP; rw [if_neg (by omega)]
theorem setP_succ (f : Nat → Bool) (A t : Nat) (to : Bool) : upd (setP f A t to) (A + t) to = setP f A (t + 1) to := funext fun i => by
  unfold upd setP
  by_cases e : i = A + t
  · subst e; rw [if_pos rfl, if_pos (by omega)]
  · rw [if_neg e]
    by_cases h : A ≤ i ∧ i < A + t
    · rw [if_pos h, if_pos (by omega)]
    · rw [if_neg h, if_neg (by omega)]
theorem r15chg_no (w : World) (b : Nat) (v : Value) (n : Nat) (f : Nat → Bool) (h : Bs b w v n f) (hn : n ≤ 16384) (a s : Int) (to : Bool) (ha : 0 ≤ a) (ha2 : a ≤ 4294967295) (hs : 0 ≤ s) (hs2 : s ≤ 4294967295) (hb : ¬ (a % 16 = 0 ∧ s % 16 = 0 ∧ 0 < s ∧ a + s ≤ 16 * n)) :
    Calls Try.prog 80 #[.agg #[v], .agg #[.int .u32 a, .int .u32 s], .bool to] w fun r w' => r = .returned (.tuple #[.agg #[v], .bool false]) ∧ Fr [] w w' := by
  have C := Lib.hid fun (W : World) (hW : Fr [] w W) => r15gran_no W b v n f (own_fr0 h hW) hn a s ha ha2 hs hs2 hb
  obtain ⟨av, cv, rfl, hcv⟩ := own_slice h
  clear h hb
  go_enter Try.func80, Try.ntmps80
  go_wp2_with (go_at_call 102; refine (C.out _ (by repeat (first | exact Fr.refl _ _ | assumption | refine Fr.trans0 ?_ (by assumption) | refine Fr.drewN ?_ _ | refine Fr.alloc ?_ _ | refine Fr.drew ?_))).mono ?_; rintro e w2 ⟨rfl, hf2⟩)
  refine wp_loop_rounds 1 ?_
  rw [rounds_succ]
  have a0 := ((At.new w 53 #[.slice av n cv]).fr (S := []) (w' := w2) (Fr.trans0 (by repeat (first | exact Fr.refl _ _ | assumption | refine Fr.trans0 ?_ (by assumption) | refine Fr.drewN ?_ _ | refine Fr.alloc ?_ _ | refine Fr.drew ?_)) hf2) (by simp))
  have a2 := ((At.new ((w.alloc (.cells #[.slice av n cv] 53)).alloc (.cells #[.int .u32 a, .int .u32 s] 70)) 53 #[.slice none 0 0]).fr (S := []) (w' := w2) (Fr.trans0 (by repeat (first | exact Fr.refl _ _ | assumption | refine Fr.trans0 ?_ (by assumption) | refine Fr.drewN ?_ _ | refine Fr.alloc ?_ _ | refine Fr.drew ?_)) hf2) (by simp))
  simp only [World.size_alloc] at a2
  have c0 := a0.cell 0
  have c2 := a2.cell 0
  have f2 := a2.froz 0
  simp only [List.getElem?_toArray, List.getElem?_cons_zero] at c0 c2
  go_wp2
  have q0 := (a2.set 0 (.slice av n cv)).cell 0
  refine bodyPost_ret (v := .tuple #[.agg #[.slice av n cv], .bool false]) (by simp [results, Try.results80, go_sem, q0]) rfl ⟨rfl, Fr.set (Fr.trans0 (by repeat (first | exact Fr.refl _ _ | assumption | refine Fr.trans0 ?_ (by assumption) | refine Fr.drewN ?_ _ | refine Fr.alloc ?_ _ | refine Fr.drew ?_)) hf2) (.inr (by show w.heap.size ≤ w.heap.size + 1 + 1; omega)) _⟩
/-- What change of the reference answers. -/
def R15 (w : World) (b : Nat) (n : Nat) (f : Nat → Bool) (A R : Nat) (to : Bool) (e : Ending) (w' : World) : Prop :=
  (∃ v', e = .returned (.tuple #[.agg #[v'], .bool (okP f A R to)]) ∧ Bs (if okP f A R to = true then w.heap.size else b) w' v' n (chgF f A R to)) ∧ Fr [] w w'
theorem r15_no {w w' : World} {b n : Nat} {f : Nat → Bool} {A R : Nat} {to : Bool} {v : Value} (ho : okP f A R to = false) (h : Bs b w' v n f) (hf : Fr [] w w') : R15 w b n f A R to (.returned (.tuple #[.agg #[v], .bool false])) w' := by
  unfold R15 chgF
  rw [ho, if_neg (by simp), if_neg (by simp)]
  exact ⟨⟨v, rfl, h⟩, hf⟩
theorem r15_yes {w w' : World} {b n : Nat} {f : Nat → Bool} {A R : Nat} {to : Bool} {v : Value} (ho : okP f A R to = true) (h : Bs w.heap.size w' v n (setP f A R to)) (hf : Fr [] w w') : R15 w b n f A R to (.returned (.tuple #[.agg #[v], .bool true])) w' := by
  unfold R15 chgF
  rw [ho, if_pos rfl, if_pos rfl]
  exact ⟨⟨v, rfl, h⟩, hf⟩
set_option maxHeartbeats 1000000 in
theorem r15chg_yes (w : World) (b : Nat) (v : Value) (n : Nat) (f : Nat → Bool) (h : Bs b w v n f) (hn : n ≤ 16384) (a s : Int) (to : Bool) (A R : Nat) (ha : a = (16 * A : Nat)) (hs : s = (16 * R : Nat)) (hR : 1 ≤ R) (hAR : A + R ≤ n) :
    Calls Try.prog 80 #[.agg #[v], .agg #[.int .u32 a, .int .u32 s], .bool to] w (R15 w b n f A R to) := by
  obtain ⟨i0, hi, hz0, hz1, hz2⟩ := info_parts infoB
  have C := Lib.hid fun (W : World) (hW : Fr [] w W) => r15gran_yes W b v n f (own_fr0 h hW) hn a s A R ha hs hR hAR
  have H := Lib.hid h
  obtain ⟨g, cv, rfl, hcv, hbg, hgw, hcell, hfz⟩ := own_open h (by omega)
  have HC := Lib.hid hcell
  clear h ha hs hcell hfz
  go_enter Try.func80, Try.ntmps80
  go_wp2_with (go_at_call 102; refine (C.out _ (by repeat (first | exact Fr.refl _ _ | assumption | refine Fr.trans0 ?_ (by assumption) | refine Fr.drewN ?_ _ | refine Fr.alloc ?_ _ | refine Fr.drew ?_))).mono ?_; rintro e w2 ⟨rfl, hf2⟩)
  have a0 := ((At.new w 53 #[.slice (some ⟨g, 0, none⟩) n cv]).fr (S := []) (w' := w2) (Fr.trans0 (by repeat (first | exact Fr.refl _ _ | assumption | refine Fr.trans0 ?_ (by assumption) | refine Fr.drewN ?_ _ | refine Fr.alloc ?_ _ | refine Fr.drew ?_)) hf2) (by simp))
  have a2 := ((At.new ((w.alloc (.cells #[.slice (some ⟨g, 0, none⟩) n cv] 53)).alloc (.cells #[.int .u32 a, .int .u32 s] 70)) 53 #[.slice none 0 0]).fr (S := []) (w' := w2) (Fr.trans0 (by repeat (first | exact Fr.refl _ _ | assumption | refine Fr.trans0 ?_ (by assumption) | refine Fr.drewN ?_ _ | refine Fr.alloc ?_ _ | refine Fr.drew ?_)) hf2) (by simp))
  simp only [World.size_alloc] at a2
  have hfw : Fr [] w w2 := Fr.trans0 (by repeat (first | exact Fr.refl _ _ | assumption | refine Fr.trans0 ?_ (by assumption) | refine Fr.drewN ?_ _ | refine Fr.alloc ?_ _ | refine Fr.drew ?_)) hf2
  have HF := Lib.hid hfw
  have H2 := Lib.hid (own_fr0 H.out hfw)
  have hc2 := Lib.hid fun k hk => (hfw.cell (a := ⟨g, k, none⟩) hgw (by simp)).trans (HC.out k hk)
  have c0 := a0.cell 0
  have c2 := a2.cell 0
  have f2 := a2.froz 0
  simp only [List.getElem?_toArray, List.getElem?_cons_zero] at c0 c2
  have A0 := Lib.hid a0
  have A2 := Lib.hid a2
  have hwz := a2.lt
  clear hfw hf2 a0 a2 H HC C
  go_loop [10, 11] (fun o i => ∃ t : Nat, t ≤ R ∧ i = .int .i64 ((A + t : Nat) : Int) ∧ o = .bool (okP f A t to)) (fun _ i => A + R - (intOf i).toNat)
  case atStart => exact ⟨0, by omega, by simp, rfl⟩
  case round =>
    obtain ⟨t, ht, rfl, rfl⟩ := hrel
    by_cases htR : t < R
    · have hct := (hc2.out (A + t) (by omega)).trans (bls_get n f (A + t) (by omega))
      have HS := Lib.hid (okP_succ f A t to)
      cases hok : okP f A t to
      · have HO := Lib.hid hok
        clear hok
        go_wp2
        go_round
        case rel => exact ⟨t + 1, by omega, by go_num, by rw [HS.out, HO.out]; rfl⟩
        case measure => simp [intOf]; omega
      · have HO := Lib.hid hok
        clear hok
        obtain ⟨x, hx⟩ : ∃ x, f (A + t) = x := ⟨_, rfl⟩
        rw [hx] at hct HS
        clear hx
        go_wp2
        go_round
        case rel => exact ⟨t + 1, by omega, by go_num, by rw [HS.out, HO.out]; rfl⟩
        case measure => simp [intOf]; omega
    · obtain rfl : t = R := by omega
      cases hok : okP f A t to
      · have HO := Lib.hid hok
        clear hok
        go_wp2
        have q0 := (A2.out.set 0 (.slice (some ⟨g, 0, none⟩) n cv)).cell 0
        refine bodyPost_ret (v := .tuple #[.agg #[.slice (some ⟨g, 0, none⟩) n cv], .bool false]) (by simp [results, Try.results80, go_sem, q0]) rfl (r15_no HO.out ?_ (HF.out.set (.inr (by show w.heap.size ≤ w.heap.size + 1 + 1; omega)) _))
        exact own_fr H2.out ((Fr.refl [w.heap.size + 1 + 1] _).set (.inl (by simp)) _) (fun g' hg => by simp [Value.ownBlock] at hg ⊢; omega)
      · have HO := Lib.hid hok
        clear hok
        have hnw := Lib.hid (H2.out.cells (g := g) rfl)
        go_wp2_with (at_builtin; refine wpList_append_own_at _ rfl (.tmp 40) (.tmp 42) 32 rfl w.heap.size 4 i0 (.bool false) 1 1 Try.underlying32 hi hz0 hz1 hz2 rfl (by omega) (.slice none 0 0) 0 [] rfl (World.ownsRow_nil _ _ _ _) ⟨g, 0, none⟩ n cv (bls n f) rfl (by simp [bls_len]) hnw.out (bls_one n f) (by unfold maxLen; omega) (by omega) (by omega) ?_; intro v1 w1 hown1 hg1 hnil1 hat1)
        obtain ⟨g1, cv1, rfl, hcv1, hbg1, hgw1, _, _⟩ := own_open hown1 (by omega)
        simp only [List.nil_append, Nat.zero_add] at hown1
        have hfr : Fr [] w2 w1 := Fr.grown hg1
        have A2' := Lib.hid (A2.out.fr hfr (by simp))
        have HF1 := Lib.hid (HF.out.trans0 hfr)
        have HO1 := Lib.hid hown1
        have hneg : g1 ≠ w.heap.size + 1 + 1 := own_ne hown1 A2'.out (by decide) g1 rfl
        clear hown1 hg1 hnil1 hat1 hfr H2 A2 hc2 HF c0 c2 f2 hnw A0
        rw [Nat.zero_add]
        go_loopw [13] (fun i wr => ∃ j : Nat, j ≤ t ∧ i = .int .i64 ((A + j : Nat) : Int) ∧ wr.ownsRow w.heap.size 4 1 (.slice (some ⟨g1, 0, none⟩) n cv1) n (bls n (setP f A j to)) ∧ Fr [g1] w1 wr) (fun i _ => A + t - (intOf i).toNat)
        case atStart => exact ⟨0, by omega, by simp, by rw [setP_zero]; exact HO1.out, Fr.refl _ _⟩
        case round =>
          obtain ⟨j, hj, rfl, hown, hfj⟩ := hrel
          have HJ := Lib.hid hown
          by_cases hjt : j < t
          · obtain ⟨g2, c2, hv2, _, _, _, hcl2, hfz2⟩ := own_open hown (by omega)
            injection hv2 with hv3 _ hv4
            injection hv3 with hv5
            injection hv5 with hv6
            subst hv6 hv4
            have hcj := (hcl2 (A + j) (by omega)).trans (bls_get n _ (A + j) (by omega))
            have hfzj := hfz2 (A + j)
            clear hown hcl2 hfz2
            go_wp2
            go_roundw
            case rel =>
              refine ⟨j + 1, by omega, by go_num, ?_, hfj.set (.inl (by simp)) _⟩
              have := own_set HJ.out rfl (A + j) (.bool to)
              rw [bls_set, setP_succ] at this
              exact this
            case measure => simp [intOf]; omega
          · obtain rfl : j = t := by omega
            have A3 := A2'.out.fr hfj (by simp; omega)
            have c3 := A3.cell 0
            have f3 := A3.froz 0
            simp only [List.getElem?_toArray, List.getElem?_cons_zero] at c3
            clear hown
            go_wp2
            have q0 := (A3.set 0 (.slice (some ⟨g1, 0, none⟩) n cv1)).cell 0
            refine bodyPost_ret (v := .tuple #[.agg #[.slice (some ⟨g1, 0, none⟩) n cv1], .bool true]) (by simp [results, Try.results80, go_sem, q0]) rfl (r15_yes HO.out ?_ ((HF1.out.trans hfj (by simp; omega)).set (.inr (by show w.heap.size ≤ w.heap.size + 1 + 1; omega)) _))
            exact own_fr HJ.out ((Fr.refl [w.heap.size + 1 + 1] _).set (.inl (by simp)) _) (fun g' hg => by simp [Value.ownBlock] at hg ⊢; omega)
end Go.Proofs.Ytilgklpponaoeaa
