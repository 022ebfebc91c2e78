/-
  The reference's look at a page: which tags it takes, and how many. Condition: the paint's truths lie apart from the tags; whole pages.
-/
import Derived.Test.YthjbnbimfpbccaaGreatDoorJ6







set_option linter.unusedVariables false
namespace Go.Proofs.YthjbnbimfpbccaaGreatDoor
open Go.ChangeShapes Go.WideShapes Go.ChangeAt Go.RowKit
set_option maxHeartbeats 2000000 in
set_option maxRecDepth 100000 in
theorem r17page_any (w : World) (r bb tb cb ct : Nat) (bs : List Nat) (f : Nat → Bool) (h : Ra w r bb tb cb ct bs f) (hN : bs.length % 256 = 0) (v : Value) (m : Nat) (fp : Nat → Bool) (hb : Bs 0 w v m fp) (hm : m ≤ 16384) (hvt : ∀ g, v.ownBlock = some g → g ≠ tb) (page : Int) :
    Calls Tryz.prog 81 #[.pointer (some ⟨r, 0, none⟩), .int .i64 page, .agg #[v]] w fun e w' => e = .returned (.int .i64 (pgN bs (hasP m fp) (tgP bs.length f page) : Nat)) ∧ Ra w' r bb tb cb ct bs (pgT bs (hasP m fp) f (tgP bs.length f page)) ∧ Fr [tb] w w' := by
  have HBS := Lib.hid hb
  have HVT := Lib.hid hvt
  obtain ⟨av, cv, rfl, -⟩ := own_slice hb
  have A0 := Lib.hid (At.new w 147 #[.slice av m cv])
  have F0 := Lib.hid (show Fr [] w (w.alloc (.cells #[.slice av m cv] 147)) from (by repeat (first | exact Fr.refl _ _ | assumption | refine Fr.trans0 ?_ (by assumption) | refine Fr.drewN ?_ _ | refine Fr.alloc ?_ _ | refine Fr.drew ?_)))
  have R0 := Lib.hid (h.fr0 F0.out)
  obtain ⟨w1, hw1⟩ : ∃ W, w.alloc (.cells #[.slice av m cv] 147) = W := ⟨_, rfl⟩
  rw [hw1] at A0 F0 R0
  have HW1 := Lib.hid hw1
  have CT := Lib.hid (rtagged_any w1 r bb tb cb ct bs f R0.out hN page)
  obtain ⟨hs, hhs⟩ : ∃ hs, hasP m fp = hs := ⟨_, rfl⟩
  have HHS := Lib.hid hhs
  rw [hhs]
  have hlt := tgP_len bs.length f page
  have HG := Lib.hid (tgP_grs bs.length f page)
  obtain ⟨l, hl⟩ : ∃ l, tgP bs.length f page = l := ⟨_, rfl⟩
  rw [hl] at CT hlt HG ⊢
  obtain ⟨n, hn⟩ : ∃ n, l.length = n := ⟨_, rfl⟩
  rw [hn] at CT hlt
  have HNN := Lib.hid hn
  have htl := h.lt.2.2
  have HIC := Lib.hid (fun c : Cp => (show (Tryz.prog.info? 49).map (·.size) = some c.cells.size from infoCapZ))
  obtain ⟨q5, hq5⟩ : ∃ q, w.heap.size = q := ⟨_, rfl⟩
  rw [hq5] at A0 htl
  have HQ5 := Lib.hid hq5
  clear hl hn h hb hhs hw1 hvt hq5
  go_enter Tryz.func81, Tryz.ntmps81
  go_wp2_with fail
  rw [HW1.out, HQ5.out]
  refine (CT.out).mono ?_
  rintro e w2 ⟨u, rfl, ho, hf2⟩
  obtain ⟨va, vc, rfl, hvc⟩ := own_slice ho
  have O2 := Lib.hid (own_base ho (Nat.zero_le _))
  have F2 := Lib.hid (F0.out.trans0 hf2)
  have A2 := Lib.hid (A0.out.fr hf2 (by simp))
  have R2 := Lib.hid (R0.out.fr0 hf2)
  clear ho hf2 CT A0 R0
  go_wp2_with fail
  go_loopw [7, 9] (fun sn i wr => ∃ k : Nat, k ≤ n ∧ i = .int .i64 k ∧ sn = .int .i64 (pgN bs hs (l.take k) : Nat) ∧ Ra wr r bb tb cb ct bs (pgT bs hs f (l.take k)) ∧ wr.ownsRow 0 43 1 (.slice va n vc) n (u32s l) ∧ At wr q5 147 #[.slice av m cv] ∧ Fr [tb] w wr) (fun _ i _ => n - (intOf i).toNat)
  case atStart => exact ⟨0, by omega, rfl, by simp [pgN], by rw [List.take_zero, pgT_nil]; exact R2.out, O2.out, A2.out, F2.out.more (by simp)⟩
  case round =>
    clear O2 F2 A2 R2
    obtain ⟨k, hk, rfl, rfl, ha, ho, hp, hf⟩ := hrel
    have HA := Lib.hid ha
    have HO := Lib.hid ho
    have HF := Lib.hid hf
    have HPB := Lib.hid hp
    have hsz := hf.size
    by_cases h1 : k < n
    · obtain ⟨a, hka⟩ : ∃ a, l[k]? = some a := ⟨_, List.getElem?_eq_getElem (by rw [HNN.out]; exact h1)⟩
      have hma := List.mem_of_getElem? hka
      have hfit := HG.out.fit a hma
      have hmod := HG.out.mod a hma
      have hbl := ha.le
      have ha32 : a < 4294967296 := by omega
      obtain ⟨gl, cl, he, -, -, hgll, hcl, -⟩ := own_open ho (by omega)
      injection he with e1 e2 e3
      subst e1 e3
      have cc := hcl k h1
      rw [u32s_get l k a hka] at cc
      have CLL := Lib.hid (fun W (hW : Fr [] wr W) => (hW.cell (a := ⟨gl, k, none⟩) hgll (by simp)).trans cc)
      have hst := HG.out.still bs hs k a hka
      have CL := Lib.hid (show Calls Tryz.prog 113 #[.pointer (some ⟨r, 0, none⟩), .int .u32 a] wr fun e w' => e = .returned (.tuple #[.agg (ofB (sub bs a 16) true).cells, .bool true]) ∧ Fr [] wr w' from by
        have := rloadc_any wr r bb tb cb ct bs _ ha a ha32
        unfold ldC at this
        rw [show whB bs.length a = true by unfold whB; simp; omega, if_pos rfl, hst] at this
        exact this)
      have hcur := ofB_ok (sub bs a 16) true (sub_byt bs a 16 ha.byt) (sub_len bs a 16 (by omega))
      have CU := Lib.hid fun W (hW : Fr [] wr W) => (show Calls Tryz.prog 115 #[.pointer (some ⟨r, 0, none⟩), .int .u32 a] W fun e w' => e = .returned (.bool true) ∧ Ra w' r bb tb cb ct bs (upd (pgT bs hs f (l.take k)) (a / 16) false) ∧ Fr [tb] W w' from by
        have := runtag_any W r bb tb cb ct bs _ (ha.fr0 hW) a ha32
        unfold unB at this
        rw [show whB bs.length a = true by unfold whB; simp; omega, hst, Bool.true_and, if_pos rfl] at this
        exact this)
      have HTK := Lib.hid (HG.out.taken bs hs k a hka)
      have HKP := Lib.hid (pgT_kept (f := f) bs hs k a hka)
      have HSN := Lib.hid (pgN_snoc bs hs k a hka)
      have hpn : pgN bs hs (l.take k) ≤ 16 := by unfold pgN; exact Nat.le_trans (List.length_filter_le _ _) (by rw [List.length_take]; omega)
      obtain ⟨N, hN⟩ : ∃ N, pgN bs hs (l.take k) = N := ⟨_, rfl⟩
      rw [hN] at hpn HSN ⊢
      have CS := Lib.hid fun W (hW : Fr [] wr W) => (show Calls Tryz.prog 114 #[.agg (ofB (sub bs a 16) true).cells, .agg #[.slice av m cv]] W fun e w' => e = .returned (.bool (sU bs hs a)) ∧ Fr [] W w' from by
        have := r17stale_any W 0 (.slice av m cv) m fp (own_fr HBS.out (hf.trans hW (by simp)) (fun g hg => by simpa using HVT.out g hg)) hm _ hcur
        rw [HHS.out] at this
        exact this)
      obtain ⟨T, hT⟩ : ∃ T, sU bs hs a = T := ⟨_, rfl⟩
      obtain ⟨c, hc⟩ : ∃ c, ofB (sub bs a 16) true = c := ⟨_, rfl⟩
      rw [hT] at CS HTK HKP HSN
      rw [hc] at CS CL
      have hki : (k : Int) < n := by omega
      obtain ⟨gcs, hgA, -⟩ := ha.tags
      have HNE := Lib.hid (own_ne ho hgA (by decide))
      have hqt : q5 ≠ tb := by omega
      clear hka hma hfit hmod hbl hcl hst hcur hN hT hc ha ho hf hgA hp
      cases T with
      | true =>
        go_wp2_with fail
        refine (CL.out).mono ?_
        rintro e w4 ⟨rfl, hf4⟩
        have F4 := Lib.hid (hf4.alloc (.cells noC.cells 49))
        have hs4 := hf4.size
        clear hf4
        go_upto_region 7 with (refine wpList_store_all (by rfl) 49 (.tmp 10) (.tmp 28) rfl _ c.cells rfl rfl 49 noC.cells (At.nw rfl) (HIC.out c) rfl (cellz_all c) ?_; intro w5 hA5 hF5)
        have A5 := Lib.hid hA5
        have F5 := Lib.hid (F4.out.trans hF5 (by simp <;> omega))
        have P5 := Lib.hid (HPB.out.fr F5.out (by simp))
        have pc := P5.out.cell 0
        simp only [List.getElem?_toArray, List.getElem?_cons_zero] at pc
        clear hA5 hF5 F4
        go_wp2_with (refine wpList_load_all (by rfl) 49 (.tmp 10) rfl _ rfl 49 c.cells _ A5.out Tryz.underlying49 rfl (HIC.out c) ?_)
        refine (CS.out _ F5.out).mono ?_
        rintro e w6 ⟨rfl, hf6⟩
        have P6 := Lib.hid (P5.out.fr hf6 (by simp))
        have cc6 := CLL.out _ (F5.out.trans0 hf6)
        go_wp2_with fail
        refine (CU.out _ (F5.out.trans0 hf6)).mono ?_
        rintro e w7 ⟨rfl, h7, hf7⟩
        rw [HTK.out (by simp)] at h7
        have H7 := Lib.hid h7
        have F7 := Lib.hid ((HF.out.trans0 (F5.out.trans0 hf6)).trans hf7 (fun x hx => .inl hx))
        have O7 := Lib.hid (own_fr (own_fr0 HO.out (F5.out.trans0 hf6)) hf7 (fun x hx => by simpa using HNE.out x hx))
        have P7 := Lib.hid (P6.out.fr hf7 (by simpa using hqt))
        clear h7 hf7 hf6 HTK HKP
        have HSN' := Lib.hid (show pgN bs hs (l.take (k + 1)) = N + 1 from HSN.out)
        clear HSN
        go_wp2_with fail
        go_roundw
        case rel => exact ⟨k + 1, by omega, by go_num, by rw [HSN'.out]; go_num, H7.out, O7.out, P7.out, F7.out⟩
        case measure => simp [intOf]; omega
      | false =>
        go_wp2_with fail
        refine (CL.out).mono ?_
        rintro e w4 ⟨rfl, hf4⟩
        have F4 := Lib.hid (hf4.alloc (.cells noC.cells 49))
        have hs4 := hf4.size
        clear hf4
        go_upto_region 7 with (refine wpList_store_all (by rfl) 49 (.tmp 10) (.tmp 28) rfl _ c.cells rfl rfl 49 noC.cells (At.nw rfl) (HIC.out c) rfl (cellz_all c) ?_; intro w5 hA5 hF5)
        have A5 := Lib.hid hA5
        have F5 := Lib.hid (F4.out.trans hF5 (by simp <;> omega))
        have P5 := Lib.hid (HPB.out.fr F5.out (by simp))
        have pc := P5.out.cell 0
        simp only [List.getElem?_toArray, List.getElem?_cons_zero] at pc
        clear hA5 hF5 F4
        go_wp2_with (refine wpList_load_all (by rfl) 49 (.tmp 10) rfl _ rfl 49 c.cells _ A5.out Tryz.underlying49 rfl (HIC.out c) ?_)
        refine (CS.out _ F5.out).mono ?_
        rintro e w6 ⟨rfl, hf6⟩
        have P6 := Lib.hid (P5.out.fr hf6 (by simp))
        have H7 := Lib.hid (HA.out.fr0 (F5.out.trans0 hf6))
        rw [HKP.out (by simp)] at H7
        have F7 := Lib.hid (HF.out.trans0 (F5.out.trans0 hf6))
        have O7 := Lib.hid (own_fr0 HO.out (F5.out.trans0 hf6))
        clear hf6 HTK HKP
        have HSN' := Lib.hid (show pgN bs hs (l.take (k + 1)) = N from HSN.out)
        clear HSN
        go_wp2_with fail
        go_roundw
        case rel => exact ⟨k + 1, by omega, by go_num, by rw [HSN'.out], H7.out, O7.out, P6.out, F7.out⟩
        case measure => simp [intOf]; omega
    · obtain rfl : k = n := by omega
      go_wp2_with fail
      go_ret
      have hA := HA.out
      rw [← HNN.out, List.take_length] at hA ⊢
      exact ⟨rfl, hA, HF.out⟩
end Go.Proofs.YthjbnbimfpbccaaGreatDoor
/-
  The reference's lists of layer 16, in plain Lean: what meets what, where a region goes. No condition.
-/



set_option linter.unusedVariables false
namespace Go.Proofs.YthjbnbimfpbccaaGreatDoor
open Go.ChangeShapes Go.WideShapes Go.ChangeAt Go.RowKit
namespace ref16
def cmn (a b : Nat × Nat) : Bool := decide (max a.1 b.1 < min (a.1 + a.2) (b.1 + b.2))
def mts (l : List (Nat × Nat)) (r : Nat × Nat) : Bool := l.any fun q => cmn q r
def wth : List (Nat × Nat) → Nat × Nat → List (Nat × Nat)
  | [], r => [r]
  | q :: l, r => if r.1 < q.1 then r :: q :: l else q :: wth l r
theorem mts_tch (l : List (Nat × Nat)) (hl : ∀ q ∈ l, q.1 % 16 = 0 ∧ q.2 % 16 = 0) (A R : Nat) (hR : 0 < R) : mts l (16 * A, 16 * R) = tch (cov l) A R := by
  unfold mts tch cov cmn
  rw [Bool.eq_iff_iff, List.any_eq_true, List.any_eq_true]
  constructor
  · rintro ⟨q, hq, h⟩
    have h := of_decide_eq_true h
    obtain ⟨e1, e2⟩ := hl q hq
    dsimp only at h
    refine ⟨max (q.1 / 16) A - A, List.mem_range.2 (by omega), List.any_eq_true.2 ⟨q, hq, ?_⟩⟩
    rw [Bool.and_eq_true]
    exact ⟨decide_eq_true (by omega), decide_eq_true (by omega)⟩
  · rintro ⟨k, hk, h⟩
    rw [List.mem_range] at hk
    obtain ⟨q, hq, h⟩ := List.any_eq_true.1 h
    rw [Bool.and_eq_true] at h
    have h1 := of_decide_eq_true h.1
    have h2 := of_decide_eq_true h.2
    refine ⟨q, hq, decide_eq_true ?_⟩
    dsimp only
    omega
theorem mts_cov (l : List (Nat × Nat)) (hl : ∀ q ∈ l, q.1 % 16 = 0 ∧ q.2 % 16 = 0) (a : Nat) : mts l (a, 1) = cov l (a / 16) := by
  unfold mts cov cmn
  rw [Bool.eq_iff_iff, List.any_eq_true, List.any_eq_true]
  constructor
  · rintro ⟨q, hq, h⟩
    have h := of_decide_eq_true h
    obtain ⟨e1, e2⟩ := hl q hq
    dsimp only at h
    refine ⟨q, hq, ?_⟩
    rw [Bool.and_eq_true]
    exact ⟨decide_eq_true (by omega), decide_eq_true (by omega)⟩
  · rintro ⟨q, hq, h⟩
    obtain ⟨e1, e2⟩ := hl q hq
    rw [Bool.and_eq_true] at h
    have h1 := of_decide_eq_true h.1
    have h2 := of_decide_eq_true h.2
    refine ⟨q, hq, decide_eq_true ?_⟩
    dsimp only
    omega
theorem wth_put : ∀ (l : List (Nat × Nat)) (r : Nat × Nat), (∀ q ∈ l, q.1 ≠ r.1) → wth l r = put l r
  | [], r, _ => rfl
  | q :: l, r, h => by
    have hq := h q (by simp)
    unfold wth put pl
    by_cases e : r.1 < q.1
    · rw [if_pos e, List.takeWhile_cons_of_neg (by simp; omega)]
      rfl
    · have ih := wth_put l r fun x hx => h x (by simp [hx])
      rw [if_neg e, List.takeWhile_cons_of_pos (by simp; omega), ih]
      rfl
/-- What meets nothing begins nowhere else. -/
theorem mts_ne {l : List (Nat × Nat)} {r : Nat × Nat} (h : mts l r = false) (hr : 0 < r.2) (hl : ∀ q ∈ l, 0 < q.2) : ∀ q ∈ l, q.1 ≠ r.1 := fun q hq e => by
  unfold mts at h
  rw [List.any_eq_false] at h
  refine h q hq (decide_eq_true ?_)
  have := hl q hq
  omega
theorem wth_len : ∀ (l : List (Nat × Nat)) (r : Nat × Nat), (wth l r).length = l.length + 1
  | [], _ => rfl
  | q :: l, r => by
    unfold wth
    split
    · rfl
    · rw [List.length_cons, wth_len l r, List.length_cons]
end ref16
end Go.Proofs.YthjbnbimfpbccaaGreatDoor
/-
  What the reference's yard tells: ended, Ticket, Done. Condition: an epoch of a million at most.
-/



set_option linter.unusedVariables false
namespace Go.Proofs.YthjbnbimfpbccaaGreatDoor
open Go.ChangeShapes Go.WideShapes Go.ChangeAt Go.RowKit
/-- The reference's yard as a value. -/
def ryc (b : Int) (wa : Option Addr) (wn wc : Nat) (la : Option Addr) (ln lc : Nat) (ep : Nat) (un : Bool) : Array Value := #[.int .i64 b, .slice wa wn wc, .slice la ln lc, .int .u64 ep, .bool un]
def rend (ep : Nat) (un : Bool) : Int := if un = true then (ep : Int) - 1 else ep
section
variable (w : World) (b : Int) (wa : Option Addr) (wn wc : Nat) (la : Option Addr) (ln lc : Nat) (ep : Nat) (un : Bool) (hu : un = true → 1 ≤ ep) (he : ep ≤ 1000000)
include hu he
def rtk (wn ln ep : Nat) (un : Bool) : Int := if 0 < wn then (ep : Int) + 1 else if 0 < ln then ep else rend ep un
end
end Go.Proofs.YthjbnbimfpbccaaGreatDoor
/-
  The reference's New. Condition: none.
-/



set_option linter.unusedVariables false
namespace Go.Proofs.YthjbnbimfpbccaaGreatDoor
open Go.ChangeShapes Go.WideShapes Go.ChangeAt Go.RowKit
theorem res_row_tmpR {P : Program} {fn : Func} {p x : Tmp} {ty : TypeId} (h : fn.results = #[.cell p ty, .tmp x]) (tmps : Array Value) (w : World) (g : Nat) (t : TypeId) (cs : Array Value) (d : TypeDesc)
    (hp : tmps.getD p undef = .pointer (some ⟨g, 0, none⟩)) (hg : At w g t cs)
    (hu : P.underlying ty = some d) (hd : (match d with | .struct _ | .array _ _ => true | _ => false) = true) (hi : (P.info? ty).map (·.size) = some cs.size) :
    (results fn tmps).run P w = .ok (.tuple #[.agg cs, tmps.getD x undef]) w := by
  have hp' : tmps[p]?.getD undef = .pointer (some ⟨g, 0, none⟩) := by simpa using hp
  simp [results, h, hp', asAddr, run_loadVar_row w g t ty cs (0, 0) d hg hu hd hi]
set_option maxRecDepth 100000 in
theorem rnew_any (w : World) (n : Nat) (hn : n ≤ 16384) : Calls Tryz.prog 26 #[.int .i64 (16 * n : Nat)] w fun e w' => e = .returned (.tuple #[.agg (ryc (16 * n : Nat) none 0 0 none 0 0 0 false), .bool true]) ∧ Fr [] w w' := by
  unfold ryc
  have A0 := Lib.hid (At.new w 65 #[.int .i64 0, .slice none 0 0, .slice none 0 0, .int .u64 0, .bool false])
  have F0 := Lib.hid (show Fr [] w (w.alloc (.cells #[.int .i64 0, .slice none 0 0, .slice none 0 0, .int .u64 0, .bool false] 65)) from (by repeat (first | exact Fr.refl _ _ | assumption | refine Fr.trans0 ?_ (by assumption) | refine Fr.drewN ?_ _ | refine Fr.alloc ?_ _ | refine Fr.drew ?_)))
  obtain ⟨m, hm⟩ : ∃ m, 16 * n = m := ⟨_, rfl⟩
  rw [hm]
  have h1 : ¬ (m : Int) < 0 := by omega
  have h2 : ¬ (m : Int) > 262144 := by omega
  have h3 : ((m : Int) % 16 != 0) = false := by simp; omega
  have h4 : (m : Int).tmod 16 = (m : Int) % 16 := Int.tmod_eq_emod_of_nonneg (by omega)
  clear hm
  go_enter Tryz.func26, Tryz.ntmps26
  go_wp2_with fail
  exact bodyPost_ret (res_row_tmpR rfl _ _ w.heap.size 65 _ _ rfl (At.new w 65 #[.int .i64 (m : Int), .slice none 0 0, .slice none 0 0, .int .u64 0, .bool false]) Tryz.underlying65 rfl (by kernel_rfl)) rfl ⟨rfl, (by repeat (first | exact Fr.refl _ _ | assumption | refine Fr.trans0 ?_ (by assumption) | refine Fr.drewN ?_ _ | refine Fr.alloc ?_ _ | refine Fr.drew ?_))⟩
set_option maxRecDepth 100000 in
theorem rnew_bad (w : World) (b : Int) (h : b < 0 ∨ 262144 < b ∨ ¬ b % 16 = 0) : Calls Tryz.prog 26 #[.int .i64 b] w fun e w' => e = .returned (.tuple #[.agg (ryc 0 none 0 0 none 0 0 0 false), .bool false]) ∧ Fr [] w w' := by
  unfold ryc
  by_cases h0 : b < 0
  · clear h
    go_enter Tryz.func26, Tryz.ntmps26
    go_wp2_with fail
    exact bodyPost_ret (res_row_tmpR rfl _ _ w.heap.size 65 _ _ rfl (At.new w 65 #[.int .i64 0, .slice none 0 0, .slice none 0 0, .int .u64 0, .bool false]) Tryz.underlying65 rfl (by kernel_rfl)) rfl ⟨rfl, (by repeat (first | exact Fr.refl _ _ | assumption | refine Fr.trans0 ?_ (by assumption) | refine Fr.drewN ?_ _ | refine Fr.alloc ?_ _ | refine Fr.drew ?_))⟩
  · have h0' : 0 ≤ b := by omega
    by_cases h1 : 262144 < b
    · clear h
      go_enter Tryz.func26, Tryz.ntmps26
      go_wp2_with fail
      exact bodyPost_ret (res_row_tmpR rfl _ _ w.heap.size 65 _ _ rfl (At.new w 65 #[.int .i64 0, .slice none 0 0, .slice none 0 0, .int .u64 0, .bool false]) Tryz.underlying65 rfl (by kernel_rfl)) rfl ⟨rfl, (by repeat (first | exact Fr.refl _ _ | assumption | refine Fr.trans0 ?_ (by assumption) | refine Fr.drewN ?_ _ | refine Fr.alloc ?_ _ | refine Fr.drew ?_))⟩
    · have h2 : (b % 16 != 0) = true := by simp; omega
      have h4 : b.tmod 16 = b % 16 := Int.tmod_eq_emod_of_nonneg (by omega)
      clear h
      go_enter Tryz.func26, Tryz.ntmps26
      go_wp2_with fail
      exact bodyPost_ret (res_row_tmpR rfl _ _ w.heap.size 65 _ _ rfl (At.new w 65 #[.int .i64 0, .slice none 0 0, .slice none 0 0, .int .u64 0, .bool false]) Tryz.underlying65 rfl (by kernel_rfl)) rfl ⟨rfl, (by repeat (first | exact Fr.refl _ _ | assumption | refine Fr.trans0 ?_ (by assumption) | refine Fr.drewN ?_ _ | refine Fr.alloc ?_ _ | refine Fr.drew ?_))⟩
end Go.Proofs.YthjbnbimfpbccaaGreatDoor
/-
  The reference's End (draft). Condition: none.
-/



set_option linter.unusedVariables false
namespace Go.Proofs.YthjbnbimfpbccaaGreatDoor
open Go.ChangeShapes Go.WideShapes Go.ChangeAt Go.RowKit
set_option maxHeartbeats 400000 in
set_option maxRecDepth 100000 in
theorem rendw_no (w : World) (b : Int) (wa : Option Addr) (wn wc : Nat) (la : Option Addr) (ln lc : Nat) (ep : Nat) : Calls Tryz.prog 85 #[.agg (ryc b wa wn wc la ln lc ep false)] w fun e w' => e = .returned (.tuple #[.agg (ryc b wa wn wc la ln lc ep false), .slice none 0 0]) ∧ Fr [] w w' := by
  unfold ryc
  obtain ⟨w1, hw1⟩ : ∃ W, w.alloc (.cells #[.int .i64 b, .slice wa wn wc, .slice la ln lc, .int .u64 ep, .bool false] 65) = W := ⟨_, rfl⟩
  have A1 := At.new w 65 #[.int .i64 b, .slice wa wn wc, .slice la ln lc, .int .u64 ep, .bool false]
  have F1 : Fr [] w (w.alloc (.cells #[.int .i64 b, .slice wa wn wc, .slice la ln lc, .int .u64 ep, .bool false] 65)) := (by repeat (first | exact Fr.refl _ _ | assumption | refine Fr.trans0 ?_ (by assumption) | refine Fr.drewN ?_ _ | refine Fr.alloc ?_ _ | refine Fr.drew ?_))
  have hs : w1.heap.size = w.heap.size + 1 := by rw [← hw1]; exact World.size_alloc _ _
  rw [hw1] at A1 F1
  have A1' := A1.old (.cells #[.int .i64 0, .slice none 0 0, .slice none 0 0, .int .u64 0, .bool false] 65)
  have c0 := A1'.cell 0
  have c1 := A1'.cell 1
  have c2 := A1'.cell 2
  have c3 := A1'.cell 3
  have c4 := A1'.cell 4
  simp only [List.getElem?_toArray, List.getElem?_cons_zero, List.getElem?_cons_succ] at c0 c1 c2 c3 c4
  have HA := Lib.hid A1'
  have HF := Lib.hid F1
  have HS := Lib.hid (show w.heap.size + 1 = w1.heap.size from hs.symm)
  clear A1 F1 A1'
  go_enter Tryz.func85, Tryz.ntmps85
  go_wp2_with fail
  exact bodyPost_ret (res_row_tmpR rfl _ _ (w.heap.size + 1) 65 _ _ rfl (At.newq HS.out) Tryz.underlying65 rfl (by kernel_rfl)) rfl ⟨rfl, HF.out.trans0 ((Fr.refl _ _).alloc _)⟩
end Go.Proofs.YthjbnbimfpbccaaGreatDoor
/-
  The reference's End and Begin, of a yard that sweeps, or does not. Condition: an epoch of a million at most.
-/



set_option linter.unusedVariables false
namespace Go.Proofs.YthjbnbimfpbccaaGreatDoor
open Go.ChangeShapes Go.WideShapes Go.ChangeAt Go.RowKit
theorem At.allR {W : World} {g : Nat} {t : TypeId} {cs : Array Value} (h : At W g t cs) (l : List Value) (hl : cs = l.toArray) : ∀ j v, l[j]? = some v → W.cell? ((⟨g, 0, none⟩ : Addr).add j) = some v := fun j v hv => by
  rw [Go.WideShapes.add_plain, h.cell, hl, Nat.zero_add, List.getElem?_toArray]
  exact hv
set_option maxRecDepth 100000 in
theorem rendw_yes (w : World) (b : Int) (wa : Option Addr) (wn wc : Nat) (la : Option Addr) (ln lc : Nat) (ep : Nat) : Calls Tryz.prog 85 #[.agg (ryc b wa wn wc la ln lc ep true)] w fun e w' => e = .returned (.tuple #[.agg (ryc b wa wn wc none 0 0 ep false), .slice la ln lc]) ∧ Fr [] w w' := by
  unfold ryc
  obtain ⟨w1, hw1⟩ : ∃ W, w.alloc (.cells #[.int .i64 b, .slice wa wn wc, .slice la ln lc, .int .u64 ep, .bool true] 65) = W := ⟨_, rfl⟩
  have A1 := At.new w 65 #[.int .i64 b, .slice wa wn wc, .slice la ln lc, .int .u64 ep, .bool true]
  have F1 : Fr [] w (w.alloc (.cells #[.int .i64 b, .slice wa wn wc, .slice la ln lc, .int .u64 ep, .bool true] 65)) := (by repeat (first | exact Fr.refl _ _ | assumption | refine Fr.trans0 ?_ (by assumption) | refine Fr.drewN ?_ _ | refine Fr.alloc ?_ _ | refine Fr.drew ?_))
  have hs : w1.heap.size = w.heap.size + 1 := by rw [← hw1]; exact World.size_alloc _ _
  rw [hw1] at A1 F1
  obtain ⟨w2, hw2⟩ : ∃ W, w1.alloc (.cells #[.int .i64 0, .slice none 0 0, .slice none 0 0, .int .u64 0, .bool false] 65) = W := ⟨_, rfl⟩
  have A2 := A1.old (.cells #[.int .i64 0, .slice none 0 0, .slice none 0 0, .int .u64 0, .bool false] 65)
  have B2 := (At.newq hs.symm : At (w1.alloc (.cells #[.int .i64 0, .slice none 0 0, .slice none 0 0, .int .u64 0, .bool false] 65)) (w.heap.size + 1) 65 #[.int .i64 0, .slice none 0 0, .slice none 0 0, .int .u64 0, .bool false])
  have F2 : Fr [] w (w1.alloc (.cells #[.int .i64 0, .slice none 0 0, .slice none 0 0, .int .u64 0, .bool false] 65)) := F1.alloc _
  rw [hw2] at A2 B2 F2
  have c0 := A2.cell 0
  have c1 := A2.cell 1
  have c2 := A2.cell 2
  have c3 := A2.cell 3
  have c4 := A2.cell 4
  simp only [List.getElem?_toArray, List.getElem?_cons_zero, List.getElem?_cons_succ] at c0 c1 c2 c3 c4
  have y2 := A2.froz 2
  have y4 := A2.froz 4
  have A4 := (A2.set 2 (.slice none 0 0)).set 4 (.bool false)
  have FS := ((Fr.refl [w.heap.size] w2).set (.inl (by simp)) (a := ⟨w.heap.size, 2, none⟩) (.slice none 0 0)).set (.inl (by simp)) (a := ⟨w.heap.size, 4, none⟩) (.bool false)
  have B4 := B2.fr FS (by simp)
  obtain ⟨w4, hw4⟩ : ∃ W, (w2.setCell ⟨w.heap.size, 2, none⟩ (.slice none 0 0)).setCell ⟨w.heap.size, 4, none⟩ (.bool false) = W := ⟨_, rfl⟩
  rw [hw4] at A4 B4 FS
  simp only [List.setIfInBounds_toArray, List.set_cons_zero, List.set_cons_succ] at A4
  have d0 := A4.cell 0
  have d1 := A4.cell 1
  have d2 := A4.cell 2
  have d3 := A4.cell 3
  have d4 := A4.cell 4
  simp only [List.getElem?_toArray, List.getElem?_cons_zero, List.getElem?_cons_succ] at d0 d1 d2 d3 d4
  have HA := Lib.hid A4
  have HB := Lib.hid B4
  have HF := Lib.hid (F2.trans FS (by simp))
  clear A1 F1 A2 B2 F2 A4 B4 FS
  go_enter Tryz.func85, Tryz.ntmps85
  go_upto_region 6 with (fail)
  go_wp2_with (first | (refine wpList_load_all rfl 65 (.tmp 1) rfl w.heap.size rfl 65 #[.int .i64 b, .slice wa wn wc, .slice none 0 0, .int .u64 ep, .bool false] HA.out _ Tryz.underlying65 rfl (by kernel_rfl) ?_) | (refine wpList_store_all rfl 65 (.tmp 2) (.tmp 13) rfl (w.heap.size + 1) #[.int .i64 b, .slice wa wn wc, .slice none 0 0, .int .u64 ep, .bool false] rfl rfl 65 #[.int .i64 0, .slice none 0 0, .slice none 0 0, .int .u64 0, .bool false] HB.out (by kernel_rfl) rfl (by simp [Value.oneCell']) ?_; intro w5 hA5 hF5))
  exact bodyPost_ret (res_row_tmpR rfl _ _ (w.heap.size + 1) 65 _ _ rfl hA5 Tryz.underlying65 rfl (by kernel_rfl)) rfl ⟨rfl, HF.out.trans hF5 (by simp)⟩
theorem wp_store_allR {P : Program} {K : Act → World → Prop} {Q : Exit → Act → World → Prop} {o : Oper} {a : Act} {w : World} (ty : TypeId) (x y : Operand) (ho : o.op = .store ty x y) (g : Nat) (cs : Array Value) (hx : a.eval x = .pointer (some ⟨g, 0, none⟩)) (hy : a.eval y = .agg cs)
    (t : TypeId) (cur : Array Value) (hg : At w g t cur) (hi : (P.info? ty).map (·.size) = some cs.size) (hk : cur.size = cs.size) (h1 : cs.all (·.oneCell') = true)
    (h : ∀ w', At w' g t cs → Fr [g] w w' → K (a.put o.dst undef) w') : o.wp P a w K Q :=
  wp_store_row ty x y ho g cs hx hy t cur hg hi hk h1 (h _ (setRow_heap w g _ _ t (0, 0) hg) (Fr.setRow w g _))
theorem res_row_tmp2R {P : Program} {fn : Func} {p x y : Tmp} {ty : TypeId} (h : fn.results = #[.cell p ty, .tmp x, .tmp y]) (tmps : Array Value) (w : World) (g : Nat) (t : TypeId) (cs : Array Value) (d : TypeDesc)
    (hp : tmps.getD p undef = .pointer (some ⟨g, 0, none⟩)) (hg : At w g t cs)
    (hu : P.underlying ty = some d) (hd : (match d with | .struct _ | .array _ _ => true | _ => false) = true) (hi : (P.info? ty).map (·.size) = some cs.size) :
    (results fn tmps).run P w = .ok (.tuple #[.agg cs, tmps.getD x undef, tmps.getD y undef]) w := by
  have hp' : tmps[p]?.getD undef = .pointer (some ⟨g, 0, none⟩) := by simpa using hp
  simp [results, h, hp', asAddr, run_loadVar_row w g t ty cs (0, 0) d hg hu hd hi]
set_option maxRecDepth 100000 in
theorem rbegin_no (w : World) (b : Int) (wa : Option Addr) (wn wc : Nat) (la : Option Addr) (ln lc : Nat) (ep : Nat) : Calls Tryz.prog 78 #[.agg (ryc b wa wn wc la ln lc ep true)] w fun e w' => e = .returned (.tuple #[.agg (ryc b wa wn wc la ln lc ep true), .int .u64 0, .bool false]) ∧ Fr [] w w' := by
  unfold ryc
  obtain ⟨w1, hw1⟩ : ∃ W, w.alloc (.cells #[.int .i64 b, .slice wa wn wc, .slice la ln lc, .int .u64 ep, .bool true] 65) = W := ⟨_, rfl⟩
  have A1 := At.new w 65 #[.int .i64 b, .slice wa wn wc, .slice la ln lc, .int .u64 ep, .bool true]
  have F1 : Fr [] w (w.alloc (.cells #[.int .i64 b, .slice wa wn wc, .slice la ln lc, .int .u64 ep, .bool true] 65)) := (by repeat (first | exact Fr.refl _ _ | assumption | refine Fr.trans0 ?_ (by assumption) | refine Fr.drewN ?_ _ | refine Fr.alloc ?_ _ | refine Fr.drew ?_))
  have hs : w1.heap.size = w.heap.size + 1 := by rw [← hw1]; exact World.size_alloc _ _
  rw [hw1] at A1 F1
  obtain ⟨w2, hw2⟩ : ∃ W, w1.alloc (.cells #[.int .i64 0, .slice none 0 0, .slice none 0 0, .int .u64 0, .bool false] 65) = W := ⟨_, rfl⟩
  have A2 := A1.old (.cells #[.int .i64 0, .slice none 0 0, .slice none 0 0, .int .u64 0, .bool false] 65)
  have B2 := (At.newq hs.symm : At (w1.alloc (.cells #[.int .i64 0, .slice none 0 0, .slice none 0 0, .int .u64 0, .bool false] 65)) (w.heap.size + 1) 65 #[.int .i64 0, .slice none 0 0, .slice none 0 0, .int .u64 0, .bool false])
  have F2 : Fr [] w (w1.alloc (.cells #[.int .i64 0, .slice none 0 0, .slice none 0 0, .int .u64 0, .bool false] 65)) := F1.alloc _
  rw [hw2] at A2 B2 F2
  have c0 := A2.cell 0
  have c1 := A2.cell 1
  have c2 := A2.cell 2
  have c3 := A2.cell 3
  have c4 := A2.cell 4
  simp only [List.getElem?_toArray, List.getElem?_cons_zero, List.getElem?_cons_succ] at c0 c1 c2 c3 c4
  have HA := Lib.hid A2
  have HB := Lib.hid B2
  have HF := Lib.hid F2
  clear A1 F1 A2 B2 F2
  go_enter Tryz.func78, Tryz.ntmps78
  go_wp2_with (first | (refine wpList_load_all rfl 65 (.tmp 1) rfl w.heap.size rfl 65 #[.int .i64 b, .slice wa wn wc, .slice la ln lc, .int .u64 ep, .bool true] HA.out _ Tryz.underlying65 rfl (by kernel_rfl) ?_) | (refine wpList_store_all rfl 65 (.tmp 2) (.tmp 7) rfl (w.heap.size + 1) #[.int .i64 b, .slice wa wn wc, .slice la ln lc, .int .u64 ep, .bool true] rfl rfl 65 #[.int .i64 0, .slice none 0 0, .slice none 0 0, .int .u64 0, .bool false] HB.out (by kernel_rfl) rfl (by simp [Value.oneCell']) ?_; intro w5 hA5 hF5))
  exact bodyPost_ret (res_row_tmp2R rfl _ _ (w.heap.size + 1) 65 _ _ rfl hA5 Tryz.underlying65 rfl (by kernel_rfl)) rfl ⟨rfl, HF.out.trans hF5 (by simp)⟩
set_option maxRecDepth 100000 in
theorem rbegin_yes (w : World) (b : Int) (wa : Option Addr) (wn wc : Nat) (la : Option Addr) (ln lc : Nat) (ep : Nat) (he : ep ≤ 1000000) : Calls Tryz.prog 78 #[.agg (ryc b wa wn wc la ln lc ep false)] w fun e w' => e = .returned (.tuple #[.agg (ryc b none 0 0 wa wn wc (ep + 1) true), .int .u64 (ep + 1 : Nat), .bool true]) ∧ Fr [] w w' := by
  have hw0 : IntKind.u64.wrap ((ep : Int) + 1) = ((ep + 1 : Nat) : Int) := by simp [IntKind.wrap, IntKind.signed, IntKind.bits]; omega
  obtain ⟨E, hE⟩ : ∃ E, ep + 1 = E := ⟨_, rfl⟩
  rw [hE] at hw0 ⊢
  clear hE he
  unfold ryc
  obtain ⟨w1, hw1⟩ : ∃ W, w.alloc (.cells #[.int .i64 b, .slice wa wn wc, .slice la ln lc, .int .u64 ep, .bool false] 65) = W := ⟨_, rfl⟩
  have A1 := At.new w 65 #[.int .i64 b, .slice wa wn wc, .slice la ln lc, .int .u64 ep, .bool false]
  have F1 : Fr [] w (w.alloc (.cells #[.int .i64 b, .slice wa wn wc, .slice la ln lc, .int .u64 ep, .bool false] 65)) := (by repeat (first | exact Fr.refl _ _ | assumption | refine Fr.trans0 ?_ (by assumption) | refine Fr.drewN ?_ _ | refine Fr.alloc ?_ _ | refine Fr.drew ?_))
  have hs : w1.heap.size = w.heap.size + 1 := by rw [← hw1]; exact World.size_alloc _ _
  rw [hw1] at A1 F1
  obtain ⟨w2, hw2⟩ : ∃ W, w1.alloc (.cells #[.int .i64 0, .slice none 0 0, .slice none 0 0, .int .u64 0, .bool false] 65) = W := ⟨_, rfl⟩
  have A2 := A1.old (.cells #[.int .i64 0, .slice none 0 0, .slice none 0 0, .int .u64 0, .bool false] 65)
  have B2 := (At.newq hs.symm : At (w1.alloc (.cells #[.int .i64 0, .slice none 0 0, .slice none 0 0, .int .u64 0, .bool false] 65)) (w.heap.size + 1) 65 #[.int .i64 0, .slice none 0 0, .slice none 0 0, .int .u64 0, .bool false])
  have F2 : Fr [] w (w1.alloc (.cells #[.int .i64 0, .slice none 0 0, .slice none 0 0, .int .u64 0, .bool false] 65)) := F1.alloc _
  rw [hw2] at A2 B2 F2
  have c0 := A2.cell 0
  have c1 := A2.cell 1
  have c2 := A2.cell 2
  have c3 := A2.cell 3
  have c4 := A2.cell 4
  simp only [List.getElem?_toArray, List.getElem?_cons_zero, List.getElem?_cons_succ] at c0 c1 c2 c3 c4
  have y1 := A2.froz 1
  have y2 := A2.froz 2
  have y3 := A2.froz 3
  have y4 := A2.froz 4
  have A4 := (((A2.set 4 (.bool true)).set 3 (.int .u64 (E : Nat))).set 2 (.slice wa wn wc)).set 1 (.slice none 0 0)
  have FS := ((((Fr.refl [w.heap.size] w2).set (.inl (by simp)) (a := ⟨w.heap.size, 4, none⟩) (.bool true)).set (.inl (by simp)) (a := ⟨w.heap.size, 3, none⟩) (.int .u64 (E : Nat))).set (.inl (by simp)) (a := ⟨w.heap.size, 2, none⟩) (.slice wa wn wc)).set (.inl (by simp)) (a := ⟨w.heap.size, 1, none⟩) (.slice none 0 0)
  have B4 := B2.fr FS (by simp)
  obtain ⟨w4, hw4⟩ : ∃ W, (((w2.setCell ⟨w.heap.size, 4, none⟩ (.bool true)).setCell ⟨w.heap.size, 3, none⟩ (.int .u64 (E : Nat))).setCell ⟨w.heap.size, 2, none⟩ (.slice wa wn wc)).setCell ⟨w.heap.size, 1, none⟩ (.slice none 0 0) = W := ⟨_, rfl⟩
  rw [hw4] at A4 B4 FS
  simp only [List.setIfInBounds_toArray, List.set_cons_zero, List.set_cons_succ] at A4
  have HA := Lib.hid A4
  have HB := Lib.hid B4
  have HF := Lib.hid (F2.trans FS (by simp))
  clear A1 F1 A2 B2 F2 A4 B4 FS
  go_enter Tryz.func78, Tryz.ntmps78
  go_upto_region 7 with (fail)
  refine wp_region_L (fun W => At W w.heap.size 65 #[.int .i64 b, .slice none 0 0, .slice wa wn wc, .int .u64 (E : Nat), .bool true] ∧ Fr [w.heap.size + 1] w4 W) [] (by kernel_rfl) ⟨HA.out.hp rfl, (Fr.refl _ _).drew⟩ (fun hHeld => ?_)
  refine wpAnyL_take (i := 0) rfl (by kernel_rfl) (fun _ _ _ h => h) (yields_load_at 65 (.tmp 1) rfl ⟨w.heap.size, 0, none⟩ rfl [.int .i64 b, .slice none 0 0, .slice wa wn wc, .int .u64 (E : Nat), .bool true] _ (fun W h => At.allR h.1 _ rfl) Tryz.underlying65 rfl (by kernel_rfl) rfl) (by assumption) ?_; (try (refine wpAnyL_norm (by simp only [Act.put, List.setIfInBounds_toArray, List.set_cons_zero, List.set_cons_succ]; rfl) ?_))
  refine wpAnyL_take (i := 1) (v := ?_) rfl (by kernel_rfl) (fun _ _ _ h => h) (Or.inl ⟨by rfl, ?_⟩) (by assumption) ?_; rotate_left; (focus (intro w hSw; skip; go_simp; (try with_reducible rfl))); (try (refine wpAnyL_norm (by simp only [Act.put, List.setIfInBounds_toArray, List.set_cons_zero, List.set_cons_succ]; rfl) ?_))
  refine wpAnyL_take (i := 2) (v := ?_) rfl (by kernel_rfl) (fun _ _ _ h => h) (Or.inl ⟨by rfl, ?_⟩) (by assumption) ?_; rotate_left; (focus (intro w hSw; ((have cc := hSw.1.cell 3); (simp only [List.getElem?_toArray, List.getElem?_cons_zero, List.getElem?_cons_succ] at cc)); go_simp; (try with_reducible rfl))); (try (refine wpAnyL_norm (by simp only [Act.put, List.setIfInBounds_toArray, List.set_cons_zero, List.set_cons_succ]; rfl) ?_))
  refine wpAnyL_ready (rs := [3]) (by kernel_rfl) (by simp) ?_; refine AllReadyL.cons rfl (fun K hK => ?_) AllReadyL.nil
  rw [if_pos (by rfl)]
  refine wp_store_allR 65 (.tmp 2) (.tmp 17) rfl (w.heap.size + 1) #[.int .i64 b, .slice none 0 0, .slice wa wn wc, .int .u64 (E : Nat), .bool true] rfl rfl 65 #[.int .i64 0, .slice none 0 0, .slice none 0 0, .int .u64 0, .bool false] (HB.out.hp rfl) (by kernel_rfl) rfl (by simp [Value.oneCell']) ?_
  intro w5 hA5 hF5
  refine hK.out _ _ (fun _ => ⟨hHeld.1.fr hF5 (by simp), hHeld.2.trans hF5 (fun k hk => .inl hk)⟩) (fun hHeld' => ?_); have hHeld := hHeld' (by decide); clear hHeld' hK K; (try (refine wpAnyL_norm (by simp only [Act.put, List.setIfInBounds_toArray, List.set_cons_zero, List.set_cons_succ]; rfl) ?_))
  have HA5 := Lib.hid hA5
  have F5 := Lib.hid (HF.out.trans hHeld.2 (by simp))
  clear hA5 hF5
  refine wpAnyL_take (i := 4) (v := ?_) rfl (by kernel_rfl) (fun _ _ _ h => h) (Or.inl ⟨by rfl, ?_⟩) (by assumption) ?_; rotate_left; (focus (intro w hSw; skip; go_simp; (try with_reducible rfl))); (try (refine wpAnyL_norm (by simp only [Act.put, List.setIfInBounds_toArray, List.set_cons_zero, List.set_cons_succ]; rfl) ?_))
  refine wpAnyL_take (i := 5) (v := ?_) rfl (by kernel_rfl) (fun _ _ _ h => h) (Or.inl ⟨by rfl, ?_⟩) (by assumption) ?_; rotate_left; (focus (intro w hSw; skip; go_simp; (try with_reducible rfl))); (try (refine wpAnyL_norm (by simp only [Act.put, List.setIfInBounds_toArray, List.set_cons_zero, List.set_cons_succ]; rfl) ?_))
  refine wpAnyL_done (by kernel_rfl) ?_ _
  clear hHeld
  go_wp2_with fail
  exact bodyPost_ret (res_row_tmp2R rfl _ _ (w.heap.size + 1) 65 _ _ rfl HA5.out Tryz.underlying65 rfl (by kernel_rfl)) rfl ⟨rfl, F5.out⟩
end Go.Proofs.YthjbnbimfpbccaaGreatDoor
/-
  The reference's with: a list of regions with one more. Condition: numbers in their types' ranges, a list of a hundred thousand at most.
-/



set_option linter.unusedVariables false
namespace Go.Proofs.YthjbnbimfpbccaaGreatDoor
open Go.ChangeShapes Go.WideShapes Go.ChangeAt Go.RowKit
theorem built1r (W : World) (a s : Int) : (Instr.buildSlice 35 1 #[(0, .agg #[.int .u32 a, .int .u32 s])]).run Tryz.prog W = .ok (.slice (some ⟨W.heap.size, 0, none⟩) 1 1) (W.alloc (.cells #[.int .u32 a, .int .u32 s] 45)) := by kernel_rfl
theorem one2 (a s : Int) : ∀ u ∈ [Value.int .u32 a, .int .u32 s], u.oneCell' = true := fun u hu => by simp at hu; rcases hu with rfl | rfl <;> rfl
theorem rgv_snoc (l : List (Nat × Nat)) (a s : Nat) : rgv (l ++ [(a, s)]) = rgv l ++ [.int .u32 (a : Int), .int .u32 (s : Int)] := by rw [rgv_append]; rfl
/-- What is out, and is to come. -/
def wthIs (l : List (Nat × Nat)) (r : Nat × Nat) (k : Nat) (B : Bool) (out : List (Nat × Nat)) : Prop := out ++ (if B = true then l.drop k else ref16.wth (l.drop k) r) = ref16.wth l r
theorem wthIs.start (l : List (Nat × Nat)) (r : Nat × Nat) : wthIs l r 0 false [] := rfl
theorem drop_at {l : List (Nat × Nat)} {k : Nat} {q : Nat × Nat} (h : l[k]? = some q) : l.drop k = q :: l.drop (k + 1) := by
  obtain ⟨h1, h2⟩ := List.getElem?_eq_some_iff.1 h
  rw [← h2]; exact List.drop_eq_getElem_cons h1
theorem wthIs.yes {l : List (Nat × Nat)} {r q : Nat × Nat} {k : Nat} {out : List (Nat × Nat)} (h : wthIs l r k true out) (hq : l[k]? = some q) : wthIs l r (k + 1) true (out ++ [q]) := by
  unfold wthIs at *
  rw [if_pos rfl] at *
  rw [drop_at hq] at h
  rw [← h]; simp
theorem wthIs.put {l : List (Nat × Nat)} {r q : Nat × Nat} {k : Nat} {out : List (Nat × Nat)} (h : wthIs l r k false out) (hq : l[k]? = some q) (hr : r.1 < q.1) : wthIs l r (k + 1) true (out ++ [r] ++ [q]) := by
  unfold wthIs at *
  rw [if_pos rfl]
  rw [if_neg (by simp), drop_at hq] at h
  conv at h => lhs; rw [ref16.wth]
  rw [if_pos hr] at h
  rw [← h]; simp
theorem wthIs.no {l : List (Nat × Nat)} {r q : Nat × Nat} {k : Nat} {out : List (Nat × Nat)} (h : wthIs l r k false out) (hq : l[k]? = some q) (hr : ¬ r.1 < q.1) : wthIs l r (k + 1) false (out ++ [q]) := by
  unfold wthIs at *
  rw [if_neg (by simp)] at *
  rw [drop_at hq] at h
  conv at h => lhs; rw [ref16.wth]
  rw [if_neg hr] at h
  rw [← h]; simp
theorem wthIs.end1 {l : List (Nat × Nat)} {r : Nat × Nat} {out : List (Nat × Nat)} (h : wthIs l r l.length true out) : out = ref16.wth l r := by
  unfold wthIs at h
  rw [if_pos rfl, List.drop_length, List.append_nil] at h
  exact h
theorem wthIs.end0 {l : List (Nat × Nat)} {r : Nat × Nat} {out : List (Nat × Nat)} (h : wthIs l r l.length false out) : out ++ [r] = ref16.wth l r := by
  unfold wthIs at h
  rw [if_neg (by simp), List.drop_length] at h
  exact h
set_option maxHeartbeats 2000000 in
set_option maxRecDepth 100000 in
theorem rwith_any (w : World) (v : Value) (l : List (Nat × Nat)) (base : Nat) (hv : w.ownsRow base 45 2 v l.length (rgv l)) (hl : ∀ q ∈ l, q.1 < 4294967296 ∧ q.2 < 4294967296) (hn : l.length ≤ 100000) (a s : Nat) (ha : a < 4294967296) (hs : s < 4294967296) :
    Calls Tryz.prog 77 #[v, .agg #[.int .u32 a, .int .u32 s]] w fun e w' => ∃ u, e = .returned u ∧ w'.ownsRow w.heap.size 45 2 u (l.length + 1) (rgv (ref16.wth l (a, s))) ∧ Fr [] w w' := by
  obtain ⟨i0, hi, hz0, hz1, hz2⟩ := info_parts infoRg
  have A0 := Lib.hid (At.new w 45 #[.int .u32 (a : Int), .int .u32 s])
  have F0 := Lib.hid (show Fr [] w (w.alloc (.cells #[.int .u32 (a : Int), .int .u32 s] 45)) from (by repeat (first | exact Fr.refl _ _ | assumption | refine Fr.trans0 ?_ (by assumption) | refine Fr.drewN ?_ _ | refine Fr.alloc ?_ _ | refine Fr.drew ?_)))
  have HV := Lib.hid hv
  have HLB := Lib.hid hl
  obtain ⟨va, vc, rfl, -⟩ := own_slice hv
  obtain ⟨n, hn'⟩ : ∃ n, l.length = n := ⟨_, rfl⟩
  rw [hn'] at hn HV ⊢
  have HN := Lib.hid hn'
  clear hv hl hn'
  go_enter Tryz.func77, Tryz.ntmps77
  go_wp2_with fail
  go_loopw [5, 6, 7] (fun o p i wr => ∃ (k : Nat) (B : Bool) (out : List (Nat × Nat)), k ≤ n ∧ i = .int .i64 k ∧ p = .bool B ∧ wr.ownsRow (w.heap.size + 1) 45 2 o out.length (rgv out) ∧ out.length = k + B.toNat ∧ wthIs l (a, s) k B out ∧ Fr [] w wr ∧ At wr w.heap.size 45 #[.int .u32 (a : Int), .int .u32 s]) (fun _ _ i _ => n - (intOf i).toNat)
  case atStart => exact ⟨0, false, [], by omega, rfl, rfl, World.ownsRow_nil _ _ _ _, rfl, wthIs.start _ _, F0.out, A0.out⟩
  case round =>
    clear A0 F0
    obtain ⟨k, B, out, hk, rfl, rfl, ho, hm, hw, hf, hat⟩ := hrel
    obtain ⟨m, hmo⟩ : ∃ m, out.length = m := ⟨_, rfl⟩
    rw [hmo] at ho hm
    have HMO := Lib.hid hmo
    have OX := Lib.hid ho
    have HW := Lib.hid hw
    have FX := Lib.hid hf
    have AX := Lib.hid hat
    obtain ⟨oa, oc, rfl, -⟩ := own_slice ho
    clear hmo ho hw hf hat
    by_cases h1 : k < n
    · obtain ⟨r, hr⟩ : ∃ r, l[k]? = some r := ⟨_, List.getElem?_eq_getElem (by rw [HN.out]; exact h1)⟩
      obtain ⟨hb1, hb2⟩ := HLB.out r (List.mem_of_getElem? hr)
      rcases rows_open HV.out with ⟨_, h0⟩ | ⟨g, cap, cur, hv, -, hA, g1, g2, g3, g4⟩
      · omega
      · injection hv with e1 e2 e3
        subst e1 e3
        have q0 := rows_at (n := n) (cap := vc) hA g4 (k * 2) 0 (.int .u32 (r.1 : Nat)) (by rw [List.getElem?_drop]; exact (rgv_get _ k r hr).1)
        have q1 := rows_at (n := n) (cap := vc) hA g4 (k * 2) 1 (.int .u32 (r.2 : Nat)) (by rw [List.getElem?_drop]; exact (rgv_get _ k r hr).2)
        have Q0 := Lib.hid q0
        have Q1 := Lib.hid q1
        have HGL := Lib.hid hA.lt
        obtain ⟨b, t⟩ := r
        have HR := Lib.hid hr
        dsimp only at Q0 Q1 hb1 hb2
        have hki : (k : Int) < n := by omega
        clear hr hA g1 g2 g3 g4 q0 q1
        cases B with
        | true =>
          have hm2 : m = k + 1 := hm
          clear hm
          have HM := Lib.hid hm2
          have hmb : m ≤ 100000 := by omega
          clear hm2
          go_wp2_with fail
          refine wp_region_L (fun W => Fr [] wr W) [] (by kernel_rfl) ((Fr.refl _ _).drew) (fun hHeld => ?_)
          refine wpAnyL_take (i := 0) (v := ?_) rfl (by kernel_rfl) (fun _ _ _ h => h) (Or.inl ⟨by rfl, ?_⟩) (by assumption) ?_; rotate_left; (focus (intro w hSw; skip; go_simp; (try with_reducible rfl))); (try (refine wpAnyL_norm (by simp only [Act.put, List.setIfInBounds_toArray, List.set_cons_zero, List.set_cons_succ]; rfl) ?_))
          refine wpAnyL_take (i := 1) (v := ?_) rfl (by kernel_rfl) (fun _ _ _ h => h) (Or.inl ⟨by rfl, ?_⟩) (by assumption) ?_; rotate_left; (focus (intro w hSw; skip; go_simp; (try with_reducible rfl))); (try (refine wpAnyL_norm (by simp only [Act.put, List.setIfInBounds_toArray, List.set_cons_zero, List.set_cons_succ]; rfl) ?_))
          refine wpAnyL_take (i := 2) (v := ?_) rfl (by kernel_rfl) (fun _ _ _ h => h) (Or.inl ⟨by rfl, ?_⟩) (by assumption) ?_; rotate_left; (focus (intro w hSw; skip; go_simp; (try with_reducible rfl))); (try (refine wpAnyL_norm (by simp only [Act.put, List.setIfInBounds_toArray, List.set_cons_zero, List.set_cons_succ]; rfl) ?_))
          refine wpAnyL_take (i := 3) (v := undef) rfl (by kernel_rfl) (fun _ _ _ h => h) (Or.inr ⟨by rfl, rfl⟩) (by assumption) ?_; (try (refine wpAnyL_norm (by simp only [Act.put, List.setIfInBounds_toArray, List.set_cons_zero, List.set_cons_succ]; rfl) ?_))
          refine wpAnyL_take (i := 4) (v := undef) rfl (by kernel_rfl) (fun _ _ _ h => h) (Or.inr ⟨by rfl, rfl⟩) (by assumption) ?_; (try (refine wpAnyL_norm (by simp only [Act.put, List.setIfInBounds_toArray, List.set_cons_zero, List.set_cons_succ]; rfl) ?_))
          refine wpAnyL_take (i := 5) (v := undef) rfl (by kernel_rfl) (fun _ _ _ h => h) (Or.inr ⟨by rfl, rfl⟩) (by assumption) ?_; (try (refine wpAnyL_norm (by simp only [Act.put, List.setIfInBounds_toArray, List.set_cons_zero, List.set_cons_succ]; rfl) ?_))
          refine wpAnyL_take (i := 6) (v := undef) rfl (by kernel_rfl) (fun _ _ _ h => h) (Or.inr ⟨by rfl, rfl⟩) (by assumption) ?_; (try (refine wpAnyL_norm (by simp only [Act.put, List.setIfInBounds_toArray, List.set_cons_zero, List.set_cons_succ]; rfl) ?_))
          refine wpAnyL_take (i := 7) (v := undef) rfl (by kernel_rfl) (fun _ _ _ h => h) (Or.inr ⟨by rfl, rfl⟩) (by assumption) ?_; (try (refine wpAnyL_norm (by simp only [Act.put, List.setIfInBounds_toArray, List.set_cons_zero, List.set_cons_succ]; rfl) ?_))
          refine wpAnyL_take (i := 8) (v := undef) rfl (by kernel_rfl) (fun _ _ _ h => h) (Or.inr ⟨by rfl, rfl⟩) (by assumption) ?_; (try (refine wpAnyL_norm (by simp only [Act.put, List.setIfInBounds_toArray, List.set_cons_zero, List.set_cons_succ]; rfl) ?_))
          refine wpAnyL_take (i := 9) (v := undef) rfl (by kernel_rfl) (fun _ _ _ h => h) (Or.inr ⟨by rfl, rfl⟩) (by assumption) ?_; (try (refine wpAnyL_norm (by simp only [Act.put, List.setIfInBounds_toArray, List.set_cons_zero, List.set_cons_succ]; rfl) ?_))
          refine wpAnyL_take (i := 10) (v := undef) rfl (by kernel_rfl) (fun _ _ _ h => h) (Or.inr ⟨by rfl, rfl⟩) (by assumption) ?_; (try (refine wpAnyL_norm (by simp only [Act.put, List.setIfInBounds_toArray, List.set_cons_zero, List.set_cons_succ]; rfl) ?_))
          refine wpAnyL_take (i := 11) (v := ?_) rfl (by kernel_rfl) (fun _ _ _ h => h) (Or.inl ⟨by rfl, ?_⟩) (by assumption) ?_; rotate_left; (focus (intro w hSw; skip; go_simp; (try with_reducible rfl))); (try (refine wpAnyL_norm (by simp only [Act.put, List.setIfInBounds_toArray, List.set_cons_zero, List.set_cons_succ]; rfl) ?_))
          refine wpAnyL_done (by kernel_rfl) ?_ _
          replace OX := Lib.hid (own_fr0 OX.out hHeld)
          replace FX := Lib.hid (FX.out.trans0 hHeld)
          replace AX := Lib.hid (AX.out.fr hHeld (by simp))
          clear hHeld
          -- at region 9 in world wr.drew: OX owned (slice oa m oc, out list out), FX, AX
          have HLB' := Lib.hid (show At (wr.drew.alloc (.cells #[.int .u32 (b : Int), .int .u32 t] 45)) wr.drew.heap.size 45 #[.int .u32 (b : Int), .int .u32 t] from At.new _ _ _)
          have OY := Lib.hid (own_fr0 OX.out (show Fr [] wr.drew (wr.drew.alloc (.cells #[.int .u32 (b : Int), .int .u32 t] 45)) from (by repeat (first | exact Fr.refl _ _ | assumption | refine Fr.trans0 ?_ (by assumption) | refine Fr.drewN ?_ _ | refine Fr.alloc ?_ _ | refine Fr.drew ?_))))
          have hsz9 : w.heap.size + 1 ≤ wr.heap.size := AX.out.lt
          go_wp2_with (first | (refine wpList_load_at rfl 45 (.tmp 33) rfl ⟨g, k * 2, none⟩ rfl [.int .u32 b, .int .u32 t] _ (fun jj v hv => by
            rw [Go.WideShapes.add_plain]
            match jj, hv with
            | 0, hv => exact ((FX.out.cell (a := ⟨g, k * 2 + 0, none⟩) HGL.out (by simp)).trans Q0.out).trans hv
            | 1, hv => exact ((FX.out.cell (a := ⟨g, k * 2 + 1, none⟩) HGL.out (by simp)).trans Q1.out).trans hv) Tryz.underlying45 rfl infoRgS ?_) | (refine wpList_buildSlice rfl 35 1 _ _ _ _ (built1r _ b t) rfl (by simp [go_sem]) ?_) | (at_builtin; refine wpList_append_own_at _ rfl (.tmp 30) (.tmp 35) 35 rfl (w.heap.size + 1) 45 i0 (.agg #[.int .u32 0, .int .u32 0]) 2 8 Tryz.underlying35 hi hz0 hz1 hz2 rfl (by omega) (.slice oa m oc) m _ rfl OY.out ⟨wr.drew.heap.size, 0, none⟩ 1 1 [.int .u32 (b : Int), .int .u32 (t : Int)] rfl rfl (fun j u hu => by rw [Go.WideShapes.add_plain, Nat.zero_add, HLB'.out.cell]; simpa using hu) (one2 _ _) (by unfold maxLen; omega) (by omega) (by simp <;> omega) ?_; intro v9 w9 hown9 hg9 hnil9 hat9))
          have G9 := Lib.hid (Fr.trans (S := (Value.slice oa m oc).ownBlock.toList) ((show Fr [] wr.drew (wr.drew.alloc (.cells #[.int .u32 (b : Int), .int .u32 t] 45)) from (by repeat (first | exact Fr.refl _ _ | assumption | refine Fr.trans0 ?_ (by assumption) | refine Fr.drewN ?_ _ | refine Fr.alloc ?_ _ | refine Fr.drew ?_))).more (by simp)) (Fr.grown hg9) (fun k hk => .inl hk))
          have OZ := Lib.hid (show w9.ownsRow (w.heap.size + 1) 45 2 v9 (out ++ [(b, t)]).length (rgv (out ++ [(b, t)])) by rw [rgv_snoc, List.length_append, HMO.out]; exact hown9)
          have HGE := Lib.hid (fun k (hk : k ∈ (Value.slice oa m oc).ownBlock.toList) => (OX.out.lt k (by simpa using hk)).1)
          go_roundw
          case rel =>
            refine ⟨k + 1, true, out ++ [(b, t)], by omega, by go_num, rfl, OZ.out, by rw [List.length_append, HMO.out, List.length_singleton]; (have := HM.out; simp [Bool.toNat]; omega), HW.out.yes HR.out, FX.out.trans G9.out (fun k hk => .inr (by have := HGE.out k hk; omega)), AX.out.fr G9.out (fun hk => by have := HGE.out _ hk; omega)⟩
          case measure => simp [intOf]; omega
        | false =>
          have hm2 : m = k := hm
          clear hm
          have HM := Lib.hid hm2
          have hmb : m ≤ 100000 := by omega
          have hwl := AX.out.lt
          have z0 := AX.out.cell 0
          simp only [List.getElem?_toArray, List.getElem?_cons_zero] at z0
          have ZF := Lib.hid (fun W (h : Fr [] wr W) => (h.cell (a := ⟨w.heap.size, 0, none⟩) hwl (by simp)).trans z0)
          clear z0
          by_cases hab : a < b
          · have hd : decide ((a : Int) < (b : Int)) = true := by simpa using hab
            have HM2 := Lib.hid hm2
            clear hm2
            go_wp2_with fail
            refine wp_region_L (fun W => Fr [] wr W) [] (by kernel_rfl) ((Fr.refl _ _).drew) (fun hHeld => ?_)
            refine wpAnyL_take (i := 0) (v := ?_) rfl (by kernel_rfl) (fun _ _ _ h => h) (Or.inl ⟨by rfl, ?_⟩) (by assumption) ?_; rotate_left; (focus (intro w hSw; skip; go_simp; (try with_reducible rfl))); (try (refine wpAnyL_norm (by simp only [Act.put, List.setIfInBounds_toArray, List.set_cons_zero, List.set_cons_succ]; rfl) ?_))
            refine wpAnyL_take (i := 1) (v := ?_) rfl (by kernel_rfl) (fun _ _ _ h => h) (Or.inl ⟨by rfl, ?_⟩) (by assumption) ?_; rotate_left; (focus (intro w hSw; skip; go_simp; (try with_reducible rfl))); (try (refine wpAnyL_norm (by simp only [Act.put, List.setIfInBounds_toArray, List.set_cons_zero, List.set_cons_succ]; rfl) ?_))
            refine wpAnyL_take (i := 2) (v := ?_) rfl (by kernel_rfl) (fun _ _ _ h => h) (Or.inl ⟨by rfl, ?_⟩) (by assumption) ?_; rotate_left; (focus (intro w hSw; skip; go_simp; (try with_reducible rfl))); (try (refine wpAnyL_norm (by simp only [Act.put, List.setIfInBounds_toArray, List.set_cons_zero, List.set_cons_succ]; rfl) ?_))
            refine wpAnyL_take (i := 3) (v := ?_) rfl (by kernel_rfl) (fun _ _ _ h => h) (Or.inl ⟨by rfl, ?_⟩) (by assumption) ?_; rotate_left; (focus (intro w hSw; skip; go_simp; (try with_reducible rfl))); (try (refine wpAnyL_norm (by simp only [Act.put, List.setIfInBounds_toArray, List.set_cons_zero, List.set_cons_succ]; rfl) ?_))
            refine wpAnyL_take (i := 4) (v := ?_) rfl (by kernel_rfl) (fun _ _ _ h => h) (Or.inl ⟨by rfl, ?_⟩) (by assumption) ?_; rotate_left; (focus (intro w hSw; skip; go_simp; (try with_reducible rfl))); (try (refine wpAnyL_norm (by simp only [Act.put, List.setIfInBounds_toArray, List.set_cons_zero, List.set_cons_succ]; rfl) ?_))
            refine wpAnyL_take (i := 5) (v := ?_) rfl (by kernel_rfl) (fun _ _ _ h => h) (Or.inl ⟨by rfl, ?_⟩) (by assumption) ?_; rotate_left; (focus (intro w hSw; skip; go_simp; (try with_reducible rfl))); (try (refine wpAnyL_norm (by simp only [Act.put, List.setIfInBounds_toArray, List.set_cons_zero, List.set_cons_succ]; rfl) ?_))
            refine wpAnyL_take (i := 6) (v := ?_) rfl (by kernel_rfl) (fun _ _ _ h => h) (Or.inl ⟨by rfl, ?_⟩) (by assumption) ?_; rotate_left; (focus (intro w hSw; skip; go_simp; (try with_reducible rfl))); (try (refine wpAnyL_norm (by simp only [Act.put, List.setIfInBounds_toArray, List.set_cons_zero, List.set_cons_succ]; rfl) ?_))
            refine wpAnyL_take (i := 7) (v := ?_) rfl (by kernel_rfl) (fun _ _ _ h => h) (Or.inl ⟨by rfl, ?_⟩) (by assumption) ?_; rotate_left; (focus (intro w hSw; ((have cc := ((FX.out.trans0 hSw).cell (a := ⟨g, k * 2 + 0, none⟩) HGL.out (by simp)).trans Q0.out); (simp only [Nat.add_zero] at cc)); go_simp; (try with_reducible rfl))); (try (refine wpAnyL_norm (by simp only [Act.put, List.setIfInBounds_toArray, List.set_cons_zero, List.set_cons_succ]; rfl) ?_))
            refine wpAnyL_take (i := 8) (v := ?_) rfl (by kernel_rfl) (fun _ _ _ h => h) (Or.inl ⟨by rfl, ?_⟩) (by assumption) ?_; rotate_left; (focus (intro w hSw; skip; go_simp; (try with_reducible rfl))); (try (refine wpAnyL_norm (by simp only [Act.put, List.setIfInBounds_toArray, List.set_cons_zero, List.set_cons_succ]; rfl) ?_))
            refine wpAnyL_take (i := 9) (v := ?_) rfl (by kernel_rfl) (fun _ _ _ h => h) (Or.inl ⟨by rfl, ?_⟩) (by assumption) ?_; rotate_left; (focus (intro w hSw; (have cc := ZF.out _ hSw); go_simp; (try with_reducible rfl))); (try (refine wpAnyL_norm (by simp only [Act.put, List.setIfInBounds_toArray, List.set_cons_zero, List.set_cons_succ]; rfl) ?_))
            refine wpAnyL_take (i := 10) (v := ?_) rfl (by kernel_rfl) (fun _ _ _ h => h) (Or.inl ⟨by rfl, ?_⟩) (by assumption) ?_; rotate_left; (focus (intro w hSw; skip; go_simp; (try with_reducible rfl))); (try (refine wpAnyL_norm (by simp only [Act.put, List.setIfInBounds_toArray, List.set_cons_zero, List.set_cons_succ]; rfl) ?_))
            refine wpAnyL_take (i := 11) (v := ?_) rfl (by kernel_rfl) (fun _ _ _ h => h) (Or.inl ⟨by rfl, ?_⟩) (by assumption) ?_; rotate_left; (focus (intro w hSw; skip; go_simp; (try with_reducible rfl))); (try (refine wpAnyL_norm (by simp only [Act.put, List.setIfInBounds_toArray, List.set_cons_zero, List.set_cons_succ]; rfl) ?_))
            refine wpAnyL_done (by kernel_rfl) ?_ _
            replace OX := Lib.hid (own_fr0 OX.out hHeld)
            replace FX := Lib.hid (FX.out.trans0 hHeld)
            replace AX := Lib.hid (AX.out.fr hHeld (by simp))
            clear hHeld
            have HLA := Lib.hid (show At (wr.drew.alloc (.cells #[.int .u32 (a : Int), .int .u32 s] 45)) wr.drew.heap.size 45 #[.int .u32 (a : Int), .int .u32 s] from At.new _ _ _)
            have OY := Lib.hid (own_fr0 OX.out (show Fr [] wr.drew (wr.drew.alloc (.cells #[.int .u32 (a : Int), .int .u32 s] 45)) from (by repeat (first | exact Fr.refl _ _ | assumption | refine Fr.trans0 ?_ (by assumption) | refine Fr.drewN ?_ _ | refine Fr.alloc ?_ _ | refine Fr.drew ?_))))
            have hsz7 : w.heap.size + 1 ≤ wr.heap.size := hwl
            go_upto_region 9 with (first | (refine wpList_load_all rfl 45 (.tmp 3) rfl w.heap.size rfl 45 #[.int .u32 (a : Int), .int .u32 s] _ AX.out Tryz.underlying45 rfl infoRgS ?_) | (refine wpList_buildSlice rfl 35 1 _ _ _ _ (built1r _ a s) rfl (by simp [go_sem]) ?_) | (at_builtin; refine wpList_append_own_at _ rfl (.tmp 26) (.tmp 28) 35 rfl (w.heap.size + 1) 45 i0 (.agg #[.int .u32 0, .int .u32 0]) 2 8 Tryz.underlying35 hi hz0 hz1 hz2 rfl (by omega) (.slice oa m oc) m _ rfl OY.out ⟨wr.drew.heap.size, 0, none⟩ 1 1 [.int .u32 (a : Int), .int .u32 (s : Int)] rfl rfl (fun j u hu => by rw [Go.WideShapes.add_plain, Nat.zero_add, HLA.out.cell]; simpa using hu) (one2 _ _) (by unfold maxLen; omega) (by omega) (by simp <;> omega) ?_; intro v7 w7 hown7 hg7 hnil7 hat7))
            have G7 := Lib.hid (Fr.trans (S := (Value.slice oa m oc).ownBlock.toList) ((show Fr [] wr.drew (wr.drew.alloc (.cells #[.int .u32 (a : Int), .int .u32 s] 45)) from (by repeat (first | exact Fr.refl _ _ | assumption | refine Fr.trans0 ?_ (by assumption) | refine Fr.drewN ?_ _ | refine Fr.alloc ?_ _ | refine Fr.drew ?_))).more (by simp)) (Fr.grown hg7) (fun k hk => .inl hk))
            have HGE := Lib.hid (fun k (hk : k ∈ (Value.slice oa m oc).ownBlock.toList) => (OX.out.lt k (by simpa using hk)).1)
            replace FX := Lib.hid (FX.out.trans G7.out (fun k hk => .inr (by have := HGE.out k hk; omega)))
            replace AX := Lib.hid (AX.out.fr G7.out (fun hk => by have := HGE.out _ hk; omega))
            replace HW := Lib.hid (HW.out.put HR.out hab)
            have HL7 : (out ++ [(a, s)] : List (Nat × Nat)).length = k + 1 := by rw [List.length_append, HMO.out, List.length_singleton, HM2.out]
            have hown8 : w7.ownsRow (w.heap.size + 1) 45 2 v7 (k + 1) (rgv (out ++ [(a, s)])) := by rw [rgv_snoc, ← HM2.out]; exact hown7
            have HWP : Hid (wthIs l (a, s) (k + 1) true ((out ++ [(a, s)]) ++ [(b, t)])) := HW
            obtain ⟨out7, hout7⟩ : ∃ x : List (Nat × Nat), out ++ [(a, s)] = x := ⟨_, rfl⟩
            rw [hout7] at hown8 HL7 HWP
            obtain ⟨m7, hm7⟩ : ∃ m7, k + 1 = m7 := ⟨_, rfl⟩
            rw [hm7] at hown8 HL7
            obtain ⟨oa7, oc7, rfl, -⟩ := own_slice hown8
            replace HMO := Lib.hid HL7
            replace HM := Lib.hid hm7
            replace OX := Lib.hid hown8
            have hmb7 : m7 ≤ 100001 := by omega
            clear hown7 hg7 hnil7 hat7 hown8 HL7 hout7 hm7 OY HLA hsz7 hwl HW
            -- at region 9 in world w7: OX owned (slice oa m oc, out list out), FX, AX
            have HLB' := Lib.hid (show At (w7.alloc (.cells #[.int .u32 (b : Int), .int .u32 t] 45)) w7.heap.size 45 #[.int .u32 (b : Int), .int .u32 t] from At.new _ _ _)
            have OY := Lib.hid (own_fr0 OX.out (show Fr [] w7 (w7.alloc (.cells #[.int .u32 (b : Int), .int .u32 t] 45)) from (by repeat (first | exact Fr.refl _ _ | assumption | refine Fr.trans0 ?_ (by assumption) | refine Fr.drewN ?_ _ | refine Fr.alloc ?_ _ | refine Fr.drew ?_))))
            have hsz9 : w.heap.size + 1 ≤ w7.heap.size := AX.out.lt
            go_wp2_with (first | (refine wpList_load_at rfl 45 (.tmp 33) rfl ⟨g, k * 2, none⟩ rfl [.int .u32 b, .int .u32 t] _ (fun jj v hv => by
              rw [Go.WideShapes.add_plain]
              match jj, hv with
              | 0, hv => exact ((FX.out.cell (a := ⟨g, k * 2 + 0, none⟩) HGL.out (by simp)).trans Q0.out).trans hv
              | 1, hv => exact ((FX.out.cell (a := ⟨g, k * 2 + 1, none⟩) HGL.out (by simp)).trans Q1.out).trans hv) Tryz.underlying45 rfl infoRgS ?_) | (refine wpList_buildSlice rfl 35 1 _ _ _ _ (built1r _ b t) rfl (by simp [go_sem]) ?_) | (at_builtin; refine wpList_append_own_at _ rfl (.tmp 30) (.tmp 35) 35 rfl (w.heap.size + 1) 45 i0 (.agg #[.int .u32 0, .int .u32 0]) 2 8 Tryz.underlying35 hi hz0 hz1 hz2 rfl (by omega) (.slice oa7 m7 oc7) m7 _ rfl OY.out ⟨w7.heap.size, 0, none⟩ 1 1 [.int .u32 (b : Int), .int .u32 (t : Int)] rfl rfl (fun j u hu => by rw [Go.WideShapes.add_plain, Nat.zero_add, HLB'.out.cell]; simpa using hu) (one2 _ _) (by unfold maxLen; omega) (by omega) (by simp <;> omega) ?_; intro v9 w9 hown9 hg9 hnil9 hat9))
            have G9 := Lib.hid (Fr.trans (S := (Value.slice oa7 m7 oc7).ownBlock.toList) ((show Fr [] w7 (w7.alloc (.cells #[.int .u32 (b : Int), .int .u32 t] 45)) from (by repeat (first | exact Fr.refl _ _ | assumption | refine Fr.trans0 ?_ (by assumption) | refine Fr.drewN ?_ _ | refine Fr.alloc ?_ _ | refine Fr.drew ?_))).more (by simp)) (Fr.grown hg9) (fun k hk => .inl hk))
            have OZ := Lib.hid (show w9.ownsRow (w.heap.size + 1) 45 2 v9 (out7 ++ [(b, t)]).length (rgv (out7 ++ [(b, t)])) by rw [rgv_snoc, List.length_append, HMO.out]; exact hown9)
            have HGE := Lib.hid (fun k (hk : k ∈ (Value.slice oa7 m7 oc7).ownBlock.toList) => (OX.out.lt k (by simpa using hk)).1)
            go_roundw
            case rel =>
              refine ⟨k + 1, true, out7 ++ [(b, t)], by omega, by go_num, rfl, OZ.out, by rw [List.length_append, HMO.out, List.length_singleton]; (have := HM.out; simp [Bool.toNat]; omega), HWP.out, FX.out.trans G9.out (fun k hk => .inr (by have := HGE.out k hk; omega)), AX.out.fr G9.out (fun hk => by have := HGE.out _ hk; omega)⟩
            case measure => simp [intOf]; omega
          · have hd : decide ((a : Int) < (b : Int)) = false := by simpa using hab
            clear hm2
            go_wp2_with fail
            refine wp_region_L (fun W => Fr [] wr W) [] (by kernel_rfl) ((Fr.refl _ _).drew) (fun hHeld => ?_)
            refine wpAnyL_take (i := 0) (v := ?_) rfl (by kernel_rfl) (fun _ _ _ h => h) (Or.inl ⟨by rfl, ?_⟩) (by assumption) ?_; rotate_left; (focus (intro w hSw; skip; go_simp; (try with_reducible rfl))); (try (refine wpAnyL_norm (by simp only [Act.put, List.setIfInBounds_toArray, List.set_cons_zero, List.set_cons_succ]; rfl) ?_))
            refine wpAnyL_take (i := 1) (v := ?_) rfl (by kernel_rfl) (fun _ _ _ h => h) (Or.inl ⟨by rfl, ?_⟩) (by assumption) ?_; rotate_left; (focus (intro w hSw; skip; go_simp; (try with_reducible rfl))); (try (refine wpAnyL_norm (by simp only [Act.put, List.setIfInBounds_toArray, List.set_cons_zero, List.set_cons_succ]; rfl) ?_))
            refine wpAnyL_take (i := 2) (v := ?_) rfl (by kernel_rfl) (fun _ _ _ h => h) (Or.inl ⟨by rfl, ?_⟩) (by assumption) ?_; rotate_left; (focus (intro w hSw; skip; go_simp; (try with_reducible rfl))); (try (refine wpAnyL_norm (by simp only [Act.put, List.setIfInBounds_toArray, List.set_cons_zero, List.set_cons_succ]; rfl) ?_))
            refine wpAnyL_take (i := 3) (v := ?_) rfl (by kernel_rfl) (fun _ _ _ h => h) (Or.inl ⟨by rfl, ?_⟩) (by assumption) ?_; rotate_left; (focus (intro w hSw; skip; go_simp; (try with_reducible rfl))); (try (refine wpAnyL_norm (by simp only [Act.put, List.setIfInBounds_toArray, List.set_cons_zero, List.set_cons_succ]; rfl) ?_))
            refine wpAnyL_take (i := 4) (v := ?_) rfl (by kernel_rfl) (fun _ _ _ h => h) (Or.inl ⟨by rfl, ?_⟩) (by assumption) ?_; rotate_left; (focus (intro w hSw; skip; go_simp; (try with_reducible rfl))); (try (refine wpAnyL_norm (by simp only [Act.put, List.setIfInBounds_toArray, List.set_cons_zero, List.set_cons_succ]; rfl) ?_))
            refine wpAnyL_take (i := 5) (v := ?_) rfl (by kernel_rfl) (fun _ _ _ h => h) (Or.inl ⟨by rfl, ?_⟩) (by assumption) ?_; rotate_left; (focus (intro w hSw; skip; go_simp; (try with_reducible rfl))); (try (refine wpAnyL_norm (by simp only [Act.put, List.setIfInBounds_toArray, List.set_cons_zero, List.set_cons_succ]; rfl) ?_))
            refine wpAnyL_take (i := 6) (v := ?_) rfl (by kernel_rfl) (fun _ _ _ h => h) (Or.inl ⟨by rfl, ?_⟩) (by assumption) ?_; rotate_left; (focus (intro w hSw; skip; go_simp; (try with_reducible rfl))); (try (refine wpAnyL_norm (by simp only [Act.put, List.setIfInBounds_toArray, List.set_cons_zero, List.set_cons_succ]; rfl) ?_))
            refine wpAnyL_take (i := 7) (v := ?_) rfl (by kernel_rfl) (fun _ _ _ h => h) (Or.inl ⟨by rfl, ?_⟩) (by assumption) ?_; rotate_left; (focus (intro w hSw; ((have cc := ((FX.out.trans0 hSw).cell (a := ⟨g, k * 2 + 0, none⟩) HGL.out (by simp)).trans Q0.out); (simp only [Nat.add_zero] at cc)); go_simp; (try with_reducible rfl))); (try (refine wpAnyL_norm (by simp only [Act.put, List.setIfInBounds_toArray, List.set_cons_zero, List.set_cons_succ]; rfl) ?_))
            refine wpAnyL_take (i := 8) (v := ?_) rfl (by kernel_rfl) (fun _ _ _ h => h) (Or.inl ⟨by rfl, ?_⟩) (by assumption) ?_; rotate_left; (focus (intro w hSw; skip; go_simp; (try with_reducible rfl))); (try (refine wpAnyL_norm (by simp only [Act.put, List.setIfInBounds_toArray, List.set_cons_zero, List.set_cons_succ]; rfl) ?_))
            refine wpAnyL_take (i := 9) (v := ?_) rfl (by kernel_rfl) (fun _ _ _ h => h) (Or.inl ⟨by rfl, ?_⟩) (by assumption) ?_; rotate_left; (focus (intro w hSw; (have cc := ZF.out _ hSw); go_simp; (try with_reducible rfl))); (try (refine wpAnyL_norm (by simp only [Act.put, List.setIfInBounds_toArray, List.set_cons_zero, List.set_cons_succ]; rfl) ?_))
            refine wpAnyL_take (i := 10) (v := ?_) rfl (by kernel_rfl) (fun _ _ _ h => h) (Or.inl ⟨by rfl, ?_⟩) (by assumption) ?_; rotate_left; (focus (intro w hSw; skip; go_simp; (try with_reducible rfl))); (try (refine wpAnyL_norm (by simp only [Act.put, List.setIfInBounds_toArray, List.set_cons_zero, List.set_cons_succ]; rfl) ?_))
            refine wpAnyL_take (i := 11) (v := ?_) rfl (by kernel_rfl) (fun _ _ _ h => h) (Or.inl ⟨by rfl, ?_⟩) (by assumption) ?_; rotate_left; (focus (intro w hSw; skip; go_simp; (try with_reducible rfl))); (try (refine wpAnyL_norm (by simp only [Act.put, List.setIfInBounds_toArray, List.set_cons_zero, List.set_cons_succ]; rfl) ?_))
            refine wpAnyL_done (by kernel_rfl) ?_ _
            replace OX := Lib.hid (own_fr0 OX.out hHeld)
            replace FX := Lib.hid (FX.out.trans0 hHeld)
            replace AX := Lib.hid (AX.out.fr hHeld (by simp))
            clear hHeld
            -- at region 9 in world wr.drew: OX owned (slice oa m oc, out list out), FX, AX
            have HLB' := Lib.hid (show At (wr.drew.alloc (.cells #[.int .u32 (b : Int), .int .u32 t] 45)) wr.drew.heap.size 45 #[.int .u32 (b : Int), .int .u32 t] from At.new _ _ _)
            have OY := Lib.hid (own_fr0 OX.out (show Fr [] wr.drew (wr.drew.alloc (.cells #[.int .u32 (b : Int), .int .u32 t] 45)) from (by repeat (first | exact Fr.refl _ _ | assumption | refine Fr.trans0 ?_ (by assumption) | refine Fr.drewN ?_ _ | refine Fr.alloc ?_ _ | refine Fr.drew ?_))))
            have hsz9 : w.heap.size + 1 ≤ wr.heap.size := AX.out.lt
            go_wp2_with (first | (refine wpList_load_at rfl 45 (.tmp 33) rfl ⟨g, k * 2, none⟩ rfl [.int .u32 b, .int .u32 t] _ (fun jj v hv => by
              rw [Go.WideShapes.add_plain]
              match jj, hv with
              | 0, hv => exact ((FX.out.cell (a := ⟨g, k * 2 + 0, none⟩) HGL.out (by simp)).trans Q0.out).trans hv
              | 1, hv => exact ((FX.out.cell (a := ⟨g, k * 2 + 1, none⟩) HGL.out (by simp)).trans Q1.out).trans hv) Tryz.underlying45 rfl infoRgS ?_) | (refine wpList_buildSlice rfl 35 1 _ _ _ _ (built1r _ b t) rfl (by simp [go_sem]) ?_) | (at_builtin; refine wpList_append_own_at _ rfl (.tmp 30) (.tmp 35) 35 rfl (w.heap.size + 1) 45 i0 (.agg #[.int .u32 0, .int .u32 0]) 2 8 Tryz.underlying35 hi hz0 hz1 hz2 rfl (by omega) (.slice oa m oc) m _ rfl OY.out ⟨wr.drew.heap.size, 0, none⟩ 1 1 [.int .u32 (b : Int), .int .u32 (t : Int)] rfl rfl (fun j u hu => by rw [Go.WideShapes.add_plain, Nat.zero_add, HLB'.out.cell]; simpa using hu) (one2 _ _) (by unfold maxLen; omega) (by omega) (by simp <;> omega) ?_; intro v9 w9 hown9 hg9 hnil9 hat9))
            have G9 := Lib.hid (Fr.trans (S := (Value.slice oa m oc).ownBlock.toList) ((show Fr [] wr.drew (wr.drew.alloc (.cells #[.int .u32 (b : Int), .int .u32 t] 45)) from (by repeat (first | exact Fr.refl _ _ | assumption | refine Fr.trans0 ?_ (by assumption) | refine Fr.drewN ?_ _ | refine Fr.alloc ?_ _ | refine Fr.drew ?_))).more (by simp)) (Fr.grown hg9) (fun k hk => .inl hk))
            have OZ := Lib.hid (show w9.ownsRow (w.heap.size + 1) 45 2 v9 (out ++ [(b, t)]).length (rgv (out ++ [(b, t)])) by rw [rgv_snoc, List.length_append, HMO.out]; exact hown9)
            have HGE := Lib.hid (fun k (hk : k ∈ (Value.slice oa m oc).ownBlock.toList) => (OX.out.lt k (by simpa using hk)).1)
            go_roundw
            case rel =>
              refine ⟨k + 1, false, out ++ [(b, t)], by omega, by go_num, rfl, OZ.out, by rw [List.length_append, HMO.out, List.length_singleton]; (have := HM.out; simp [Bool.toNat]; omega), HW.out.no HR.out hab, FX.out.trans G9.out (fun k hk => .inr (by have := HGE.out k hk; omega)), AX.out.fr G9.out (fun hk => by have := HGE.out _ hk; omega)⟩
            case measure => simp [intOf]; omega
    · obtain rfl : k = n := by omega
      cases B with
      | true =>
        have hm2 : m = k + 1 := hm
        have HE : out = ref16.wth l (a, s) := wthIs.end1 (by rw [HN.out]; exact HW.out)
        have HO : Hid (wr.ownsRow w.heap.size 45 2 (.slice oa m oc) (k + 1) (rgv (ref16.wth l (a, s)))) := Lib.hid (by rw [← HE, ← hm2]; exact own_base OX.out (by omega))
        clear hm hm2 HE
        go_wp2_with fail
        go_ret
        exact ⟨_, rfl, HO.out, FX.out⟩
      | false =>
        have hm2 : m = k := hm
        have HE : out ++ [(a, s)] = ref16.wth l (a, s) := wthIs.end0 (by rw [HN.out]; exact HW.out)
        have HO : Hid (rgv out ++ [.int .u32 (a : Int), .int .u32 (s : Int)] = rgv (ref16.wth l (a, s))) := Lib.hid (by rw [← HE, rgv_snoc])
        have HM2 := Lib.hid hm2
        have hmb : m ≤ 100000 := by omega
        clear hm hm2 HE
        have HLA := Lib.hid (show At (wr.alloc (.cells #[.int .u32 (a : Int), .int .u32 s] 45)) wr.heap.size 45 #[.int .u32 (a : Int), .int .u32 s] from At.new _ _ _)
        have OY := Lib.hid (own_fr0 OX.out (show Fr [] wr (wr.alloc (.cells #[.int .u32 (a : Int), .int .u32 s] 45)) from (by repeat (first | exact Fr.refl _ _ | assumption | refine Fr.trans0 ?_ (by assumption) | refine Fr.drewN ?_ _ | refine Fr.alloc ?_ _ | refine Fr.drew ?_))))
        have hsz7 : w.heap.size + 1 ≤ wr.heap.size := AX.out.lt
        go_wp2_with (first | (refine wpList_load_all rfl 45 (.tmp 3) rfl w.heap.size rfl 45 #[.int .u32 (a : Int), .int .u32 s] _ AX.out Tryz.underlying45 rfl infoRgS ?_) | (refine wpList_buildSlice rfl 35 1 _ _ _ _ (built1r _ a s) rfl (by simp [go_sem]) ?_) | (at_builtin; refine wpList_append_own_at _ rfl (.tmp 39) (.tmp 41) 35 rfl (w.heap.size + 1) 45 i0 (.agg #[.int .u32 0, .int .u32 0]) 2 8 Tryz.underlying35 hi hz0 hz1 hz2 rfl (by omega) (.slice oa m oc) m _ rfl OY.out ⟨wr.heap.size, 0, none⟩ 1 1 [.int .u32 (a : Int), .int .u32 (s : Int)] rfl rfl (fun j u hu => by rw [Go.WideShapes.add_plain, Nat.zero_add, HLA.out.cell]; simpa using hu) (one2 _ _) (by unfold maxLen; omega) (by omega) (by simp <;> omega) ?_; intro v7 w7 hown7 hg7 hnil7 hat7))
        go_ret
        have G7 := Fr.trans (S := (Value.slice oa m oc).ownBlock.toList) ((show Fr [] wr (wr.alloc (.cells #[.int .u32 (a : Int), .int .u32 s] 45)) from (by repeat (first | exact Fr.refl _ _ | assumption | refine Fr.trans0 ?_ (by assumption) | refine Fr.drewN ?_ _ | refine Fr.alloc ?_ _ | refine Fr.drew ?_))).more (by simp)) (Fr.grown hg7) (fun k hk => .inl hk)
        rw [HO.out, HM2.out] at hown7
        exact ⟨_, rfl, own_base hown7 (by omega), FX.out.trans G7 (fun x hx => .inr (by have := (OX.out.lt x (by simpa using hx)).1; omega))⟩
end Go.Proofs.YthjbnbimfpbccaaGreatDoor
/-
  The reference's common and meets. Condition: numbers in their types' ranges.
-/



set_option linter.unusedVariables false
namespace Go.Proofs.YthjbnbimfpbccaaGreatDoor
open Go.ChangeShapes Go.WideShapes Go.ChangeAt Go.RowKit
set_option maxRecDepth 100000 in
theorem rcommon_any (w : World) (a s b t : Nat) (ha : a < 4294967296) (hs : s < 4294967296) (hb : b < 4294967296) (ht : t < 4294967296) :
    Calls Tryz.prog 112 #[.agg #[.int .u32 a, .int .u32 s], .agg #[.int .u32 b, .int .u32 t]] w fun e w' => e = .returned (.bool (ref16.cmn (a, s) (b, t))) ∧ Fr [] w w' := by
  have A1 := (At.new w 45 #[.int .u32 (a : Int), .int .u32 s]).old (.cells #[.int .u32 (b : Int), .int .u32 t] 45)
  have A2 := At.new (w.alloc (.cells #[.int .u32 (a : Int), .int .u32 s] 45)) 45 #[.int .u32 (b : Int), .int .u32 t]
  have c0 := A1.cell 0
  have c1 := A1.cell 1
  have d0 := A2.cell 0
  have d1 := A2.cell 1
  simp only [List.getElem?_toArray, List.getElem?_cons_zero, List.getElem?_cons_succ, World.size_alloc] at c0 c1 d0 d1
  have v1 : IntKind.u64.wrap (a : Int) = a := by simp [IntKind.wrap, IntKind.signed, IntKind.bits]; omega
  have v2 : IntKind.u64.wrap (s : Int) = s := by simp [IntKind.wrap, IntKind.signed, IntKind.bits]; omega
  have v3 : IntKind.u64.wrap (b : Int) = b := by simp [IntKind.wrap, IntKind.signed, IntKind.bits]; omega
  have v4 : IntKind.u64.wrap (t : Int) = t := by simp [IntKind.wrap, IntKind.signed, IntKind.bits]; omega
  have v5 : IntKind.u64.wrap ((a : Int) + s) = (a : Int) + s := by simp [IntKind.wrap, IntKind.signed, IntKind.bits]; omega
  have v6 : IntKind.u64.wrap ((b : Int) + t) = (b : Int) + t := by simp [IntKind.wrap, IntKind.signed, IntKind.bits]; omega
  have F2 : Fr [] w ((w.alloc (.cells #[.int .u32 (a : Int), .int .u32 s] 45)).alloc (.cells #[.int .u32 (b : Int), .int .u32 t] 45)) := (by repeat (first | exact Fr.refl _ _ | assumption | refine Fr.trans0 ?_ (by assumption) | refine Fr.drewN ?_ _ | refine Fr.alloc ?_ _ | refine Fr.drew ?_))
  have HF := Lib.hid F2
  clear A1 A2 F2 ha hs hb ht
  go_enter Tryz.func112, Tryz.ntmps112
  go_wp2_with fail
  all_goals (go_ret; refine ⟨congrArg (fun b => Ending.returned (.bool b)) ?_, HF.out⟩; unfold ref16.cmn; rw [Bool.eq_iff_iff]; simp only [decide_eq_true_eq]; omega)
theorem any_pre (l : List (Nat × Nat)) (p : Nat × Nat → Bool) (k : Nat) (q : Nat × Nat) (h : l[k]? = some q) : (l.take (k + 1)).any p = ((l.take k).any p || p q) := by
  rw [List.take_add_one, List.any_append, h]; simp
set_option maxHeartbeats 1000000 in
set_option maxRecDepth 100000 in
theorem rmeets_any (w : World) (v : Value) (l : List (Nat × Nat)) (base : Nat) (hv : w.ownsRow base 45 2 v l.length (rgv l)) (hl : ∀ q ∈ l, q.1 < 4294967296 ∧ q.2 < 4294967296) (hn : l.length ≤ 1000000) (a s : Nat) (ha : a < 4294967296) (hs : s < 4294967296) :
    Calls Tryz.prog 76 #[v, .agg #[.int .u32 a, .int .u32 s]] w fun e w' => e = .returned (.bool (ref16.mts l (a, s))) ∧ Fr [] w w' := by
  have A0 := Lib.hid (At.new w 45 #[.int .u32 (a : Int), .int .u32 s])
  have F0 := Lib.hid (show Fr [] w (w.alloc (.cells #[.int .u32 (a : Int), .int .u32 s] 45)) from (by repeat (first | exact Fr.refl _ _ | assumption | refine Fr.trans0 ?_ (by assumption) | refine Fr.drewN ?_ _ | refine Fr.alloc ?_ _ | refine Fr.drew ?_)))
  have HV := Lib.hid hv
  have HLB := Lib.hid hl
  obtain ⟨va, vc, rfl, -⟩ := own_slice hv
  obtain ⟨n, hn'⟩ : ∃ n, l.length = n := ⟨_, rfl⟩
  rw [hn'] at hn HV ⊢
  have HN := Lib.hid hn'
  clear hv hl hn'
  go_enter Tryz.func76, Tryz.ntmps76
  go_wp2_with fail
  obtain ⟨w3, hw3⟩ : ∃ W, w.alloc (.cells #[.int .u32 (a : Int), .int .u32 s] 45) = W := ⟨_, rfl⟩
  rw [hw3] at A0 F0 ⊢
  obtain ⟨q, hq⟩ : ∃ q, w.heap.size = q := ⟨_, rfl⟩
  rw [hq] at A0 ⊢
  clear hw3 hq
  go_loopw [5] (fun i wr => ∃ k : Nat, k ≤ n ∧ i = .int .i64 k ∧ (l.take k).any (fun q => ref16.cmn q (a, s)) = false ∧ Fr [] w wr ∧ At wr q 45 #[.int .u32 (a : Int), .int .u32 s]) (fun i _ => n - (intOf i).toNat)
  case atStart => exact ⟨0, by omega, rfl, rfl, F0.out, A0.out⟩
  case round =>
    clear A0 F0
    obtain ⟨k, hk, rfl, hno, hf, hat⟩ := hrel
    have HNO := Lib.hid hno
    have HF := Lib.hid hf
    have HA := Lib.hid hat
    clear hno hf hat
    by_cases h1 : k < n
    · obtain ⟨r, hr⟩ : ∃ r, l[k]? = some r := ⟨_, List.getElem?_eq_getElem (by rw [HN.out]; exact h1)⟩
      obtain ⟨hb1, hb2⟩ := HLB.out r (List.mem_of_getElem? hr)
      rcases rows_open HV.out with ⟨_, h0⟩ | ⟨g, cap, cur, hv, -, hA, g1, g2, g3, g4⟩
      · omega
      · injection hv with e1 e2 e3
        subst e1 e3
        have q0 := rows_at (n := n) (cap := vc) hA g4 (k * 2) 0 (.int .u32 (r.1 : Nat)) (by rw [List.getElem?_drop]; exact (rgv_get _ k r hr).1)
        have q1 := rows_at (n := n) (cap := vc) hA g4 (k * 2) 1 (.int .u32 (r.2 : Nat)) (by rw [List.getElem?_drop]; exact (rgv_get _ k r hr).2)
        have Q0 := Lib.hid q0
        have Q1 := Lib.hid q1
        have HGL := Lib.hid hA.lt
        have HAP := Lib.hid (any_pre l (fun q => ref16.cmn q (a, s)) k r hr)
        have HMR := Lib.hid (List.mem_of_getElem? hr)
        obtain ⟨b, t⟩ := r
        dsimp only at Q0 Q1 hb1 hb2
        have CC := Lib.hid fun W => rcommon_any W b t a s hb1 hb2 ha hs
        obtain ⟨B, hB⟩ : ∃ B, ref16.cmn (b, t) (a, s) = B := ⟨_, rfl⟩
        have HBB := Lib.hid hB
        simp only [hB] at CC
        have hki : (k : Int) < n := by omega
        clear hB hr hA g1 g2 g3 g4 q0 q1
        go_wp2_with fail
        refine wp_region_L (fun W => Fr [] wr W ∧ At W q 45 #[.int .u32 (a : Int), .int .u32 s]) [] (by kernel_rfl) ⟨(Fr.refl _ _).drew, HA.out.hp rfl⟩ (fun hHeld => ?_)
        refine wpAnyL_take (i := 0) (v := ?_) rfl (by kernel_rfl) (fun _ _ _ h => h) (Or.inl ⟨by rfl, ?_⟩) (by assumption) ?_; rotate_left; (focus (intro w hSw; skip; go_simp; (try with_reducible rfl))); (try (refine wpAnyL_norm (by simp only [Act.put, List.setIfInBounds_toArray, List.set_cons_zero, List.set_cons_succ]; rfl) ?_))
        refine wpAnyL_take (i := 1) (v := ?_) rfl (by kernel_rfl) (fun _ _ _ h => h) (Or.inl ⟨by rfl, ?_⟩) (by assumption) ?_; rotate_left; (focus (intro w hSw; skip; go_simp; (try with_reducible rfl))); (try (refine wpAnyL_norm (by simp only [Act.put, List.setIfInBounds_toArray, List.set_cons_zero, List.set_cons_succ]; rfl) ?_))
        refine wpAnyL_take (i := 2) (v := ?_) rfl (by kernel_rfl) (fun _ _ _ h => h) (Or.inl ⟨by rfl, ?_⟩) (by assumption) ?_; rotate_left; (focus (intro w hSw; skip; go_simp; (try with_reducible rfl))); (try (refine wpAnyL_norm (by simp only [Act.put, List.setIfInBounds_toArray, List.set_cons_zero, List.set_cons_succ]; rfl) ?_))
        refine wpAnyL_take (i := 3) rfl (by kernel_rfl) (fun _ _ _ h => h) (yields_load_at 45 (.tmp 14) rfl ⟨g, k * 2, none⟩ rfl [.int .u32 b, .int .u32 t] _ (fun W h jj v hv => by
          rw [Go.WideShapes.add_plain]
          match jj, hv with
          | 0, hv => exact (((HF.out.trans0 h.1).cell (a := ⟨g, k * 2 + 0, none⟩) HGL.out (by simp)).trans Q0.out).trans hv
          | 1, hv => exact (((HF.out.trans0 h.1).cell (a := ⟨g, k * 2 + 1, none⟩) HGL.out (by simp)).trans Q1.out).trans hv) Tryz.underlying45 rfl infoRgS rfl) (by assumption) ?_; (try (refine wpAnyL_norm (by simp only [Act.put, List.setIfInBounds_toArray, List.set_cons_zero, List.set_cons_succ]; rfl) ?_))
        refine wpAnyL_take (i := 4) rfl (by kernel_rfl) (fun _ _ _ h => h) (yields_load_at 45 (.tmp 3) rfl ⟨q, 0, none⟩ rfl [.int .u32 a, .int .u32 s] _ (fun W h => two_at h.2 0 _ _ rfl rfl) Tryz.underlying45 rfl infoRgS rfl) (by assumption) ?_; (try (refine wpAnyL_norm (by simp only [Act.put, List.setIfInBounds_toArray, List.set_cons_zero, List.set_cons_succ]; rfl) ?_))
        refine wpAnyL_ready (rs := [5]) (by kernel_rfl) (by simp) ?_; refine AllReadyL.cons rfl (fun K hK => ?_) AllReadyL.nil
        go_simp
        refine (CC.out _).mono ?_
        rintro e w6 ⟨rfl, hf6⟩
        have hh6 := And.intro (hHeld.1.trans0 hf6) (hHeld.2.fr hf6 (by simp))
        refine hK.out _ _ (fun _ => hh6) (fun hHeld' => ?_); have hHeld := hHeld' (by decide); clear hHeld' hK K; (try (refine wpAnyL_norm (by simp only [Act.put, List.setIfInBounds_toArray, List.set_cons_zero, List.set_cons_succ]; rfl) ?_))
        refine wpAnyL_done (by kernel_rfl) ?_ _
        have F6 := Lib.hid (HF.out.trans0 hHeld.1)
        have A6 := Lib.hid hHeld.2
        cases B with
        | true =>
          have HR := Lib.hid (show ref16.mts l (a, s) = true from List.any_eq_true.2 ⟨_, HMR.out, HBB.out⟩)
          go_wp2_with fail
          go_ret
          exact ⟨by rw [HR.out]; rfl, F6.out⟩
        | false =>
          go_wp2_with fail
          go_roundw
          case rel => exact ⟨k + 1, by omega, by go_num, by rw [HAP.out, HNO.out, HBB.out]; rfl, F6.out, A6.out⟩
          case measure => simp [intOf]; omega
    · obtain rfl : k = n := by omega
      have HR := Lib.hid (show ref16.mts l (a, s) = false by have := HNO.out; rw [← HN.out, List.take_length] at this; exact this)
      go_wp2_with fail
      go_ret
      exact ⟨by rw [HR.out]; rfl, HF.out⟩
end Go.Proofs.YthjbnbimfpbccaaGreatDoor
/-
  The reference's Free. Condition: numbers in their types' ranges, lists of a hundred thousand at most.
-/



set_option linter.unusedVariables false
namespace Go.Proofs.YthjbnbimfpbccaaGreatDoor
open Go.ChangeShapes Go.WideShapes Go.ChangeAt Go.RowKit
/-- Is a region let in? -/
def ref16.ok (b : Nat) (lw lb : List (Nat × Nat)) (a s : Nat) : Bool := decide (a % 16 = 0 ∧ s % 16 = 0 ∧ 0 < s ∧ a + s ≤ b) && !(ref16.mts lw (a, s) || ref16.mts lb (a, s))
section
variable (w : World) (b : Nat) (wa : Option Addr) (wn wc : Nat) (la : Option Addr) (ln lc : Nat) (ep : Nat) (un : Bool) (hb : b ≤ 262144) (a s : Nat) (ha : a < 4294967296) (hs : s < 4294967296)
include hb ha hs
set_option maxHeartbeats 2000000 in
set_option maxRecDepth 100000 in
theorem rfree_bad (hbad : ¬ (a % 16 = 0 ∧ s % 16 = 0 ∧ 0 < s ∧ a + s ≤ b)) : Calls Tryz.prog 29 #[.agg (ryc (b : Nat) wa wn wc la ln lc ep un), .agg #[.int .u32 a, .int .u32 s]] w fun e w' => e = .returned (.tuple #[.agg (ryc (b : Nat) wa wn wc la ln lc ep un), .bool false]) ∧ Fr [] w w' := by
  have hwb : IntKind.u64.wrap (b : Int) = (b : Int) := by simp [IntKind.wrap, IntKind.signed, IntKind.bits]; omega
  have t1 : (a : Int).tmod 16 = (a : Int) % 16 := Int.tmod_eq_emod_of_nonneg (by omega)
  have t2 : (s : Int).tmod 16 = (s : Int) % 16 := Int.tmod_eq_emod_of_nonneg (by omega)
  unfold ryc
  by_cases h1 : a % 16 = 0
  · have e1 : ((a : Int) % 16 != 0) = false := by simp; omega
    by_cases h2 : s % 16 = 0
    · have e2 : ((s : Int) % 16 != 0) = false := by simp; omega
      by_cases h3 : s = 0
      · have e3 : ((s : Int) == 0) = true := by simp; omega
        clear hbad h1 h2 h3
        obtain ⟨w1, hw1⟩ : ∃ W, w.alloc (.cells #[.int .i64 (b : Nat), .slice wa wn wc, .slice la ln lc, .int .u64 ep, .bool un] 65) = W := ⟨_, rfl⟩
        have A1 := At.new w 65 #[.int .i64 (b : Nat), .slice wa wn wc, .slice la ln lc, .int .u64 ep, .bool un]
        have F1 : Fr [] w (w.alloc (.cells #[.int .i64 (b : Nat), .slice wa wn wc, .slice la ln lc, .int .u64 ep, .bool un] 65)) := (by repeat (first | exact Fr.refl _ _ | assumption | refine Fr.trans0 ?_ (by assumption) | refine Fr.drewN ?_ _ | refine Fr.alloc ?_ _ | refine Fr.drew ?_))
        have hs1 : w1.heap.size = w.heap.size + 1 := by rw [← hw1]; exact World.size_alloc _ _
        rw [hw1] at A1 F1
        obtain ⟨w2, hw2⟩ : ∃ W, w1.alloc (.cells #[.int .u32 (a : Int), .int .u32 s] 45) = W := ⟨_, rfl⟩
        have A2 := A1.old (.cells #[.int .u32 (a : Int), .int .u32 s] 45)
        have B2 := (At.newq hs1.symm : At (w1.alloc (.cells #[.int .u32 (a : Int), .int .u32 s] 45)) (w.heap.size + 1) 45 #[.int .u32 (a : Int), .int .u32 s])
        have F2 : Fr [] w (w1.alloc (.cells #[.int .u32 (a : Int), .int .u32 s] 45)) := F1.alloc _
        have hs2 : w2.heap.size = w.heap.size + 1 + 1 := by rw [← hw2, World.size_alloc, hs1]
        rw [hw2] at A2 B2 F2
        obtain ⟨w3, hw3⟩ : ∃ W, w2.alloc (.cells #[.int .i64 0, .slice none 0 0, .slice none 0 0, .int .u64 0, .bool false] 65) = W := ⟨_, rfl⟩
        have A3 := A2.old (.cells #[.int .i64 0, .slice none 0 0, .slice none 0 0, .int .u64 0, .bool false] 65)
        have B3 := B2.old (.cells #[.int .i64 0, .slice none 0 0, .slice none 0 0, .int .u64 0, .bool false] 65)
        have C3 := (At.newq hs2.symm : At (w2.alloc (.cells #[.int .i64 0, .slice none 0 0, .slice none 0 0, .int .u64 0, .bool false] 65)) (w.heap.size + 1 + 1) 65 #[.int .i64 0, .slice none 0 0, .slice none 0 0, .int .u64 0, .bool false])
        have F3 : Fr [] w (w2.alloc (.cells #[.int .i64 0, .slice none 0 0, .slice none 0 0, .int .u64 0, .bool false] 65)) := F2.alloc _
        rw [hw3] at A3 B3 C3 F3
        have c0 := A3.cell 0
        have c1 := A3.cell 1
        have c2 := A3.cell 2
        have c3 := A3.cell 3
        have c4 := A3.cell 4
        simp only [List.getElem?_toArray, List.getElem?_cons_zero, List.getElem?_cons_succ] at c0 c1 c2 c3 c4
        have d0 := B3.cell 0
        have d1 := B3.cell 1
        simp only [List.getElem?_toArray, List.getElem?_cons_zero, List.getElem?_cons_succ] at d0 d1
        have HA := Lib.hid A3
        have HB := Lib.hid B3
        have HC := Lib.hid C3
        have HF := Lib.hid F3
        clear A1 A2 B2 F1 F2 A3 B3 C3 F3
        go_enter Tryz.func29, Tryz.ntmps29
        go_upto_region 2 with (fail)
        go_wp2_with (first | (refine wpList_load_all rfl 65 (.tmp 2) rfl w.heap.size rfl 65 #[.int .i64 (b : Nat), .slice wa wn wc, .slice la ln lc, .int .u64 ep, .bool un] HA.out _ Tryz.underlying65 rfl (by kernel_rfl) ?_) | (refine wpList_store_all rfl 65 (.tmp 4) (.tmp 46) rfl (w.heap.size + 1 + 1) #[.int .i64 (b : Nat), .slice wa wn wc, .slice la ln lc, .int .u64 ep, .bool un] rfl rfl 65 #[.int .i64 0, .slice none 0 0, .slice none 0 0, .int .u64 0, .bool false] HC.out (by kernel_rfl) rfl (by simp [Value.oneCell']) ?_; intro w9 hA9 hF9))
        exact bodyPost_ret (res_row_tmpR rfl _ _ (w.heap.size + 1 + 1) 65 _ _ rfl hA9 Tryz.underlying65 rfl (by kernel_rfl)) rfl ⟨rfl, (HF.out).trans hF9 (by simp <;> omega)⟩
      · have e3 : ((s : Int) == 0) = false := by simpa using h3
        have h4 : b < a + s := by omega
        have h4i : (b : Int) < (a : Int) + (s : Int) := by omega
        have e4 : decide ((b : Int) < (a : Int) + (s : Int)) = true := decide_eq_true h4i
        clear hbad h1 h2 h3 h4
        obtain ⟨w1, hw1⟩ : ∃ W, w.alloc (.cells #[.int .i64 (b : Nat), .slice wa wn wc, .slice la ln lc, .int .u64 ep, .bool un] 65) = W := ⟨_, rfl⟩
        have A1 := At.new w 65 #[.int .i64 (b : Nat), .slice wa wn wc, .slice la ln lc, .int .u64 ep, .bool un]
        have F1 : Fr [] w (w.alloc (.cells #[.int .i64 (b : Nat), .slice wa wn wc, .slice la ln lc, .int .u64 ep, .bool un] 65)) := (by repeat (first | exact Fr.refl _ _ | assumption | refine Fr.trans0 ?_ (by assumption) | refine Fr.drewN ?_ _ | refine Fr.alloc ?_ _ | refine Fr.drew ?_))
        have hs1 : w1.heap.size = w.heap.size + 1 := by rw [← hw1]; exact World.size_alloc _ _
        rw [hw1] at A1 F1
        obtain ⟨w2, hw2⟩ : ∃ W, w1.alloc (.cells #[.int .u32 (a : Int), .int .u32 s] 45) = W := ⟨_, rfl⟩
        have A2 := A1.old (.cells #[.int .u32 (a : Int), .int .u32 s] 45)
        have B2 := (At.newq hs1.symm : At (w1.alloc (.cells #[.int .u32 (a : Int), .int .u32 s] 45)) (w.heap.size + 1) 45 #[.int .u32 (a : Int), .int .u32 s])
        have F2 : Fr [] w (w1.alloc (.cells #[.int .u32 (a : Int), .int .u32 s] 45)) := F1.alloc _
        have hs2 : w2.heap.size = w.heap.size + 1 + 1 := by rw [← hw2, World.size_alloc, hs1]
        rw [hw2] at A2 B2 F2
        obtain ⟨w3, hw3⟩ : ∃ W, w2.alloc (.cells #[.int .i64 0, .slice none 0 0, .slice none 0 0, .int .u64 0, .bool false] 65) = W := ⟨_, rfl⟩
        have A3 := A2.old (.cells #[.int .i64 0, .slice none 0 0, .slice none 0 0, .int .u64 0, .bool false] 65)
        have B3 := B2.old (.cells #[.int .i64 0, .slice none 0 0, .slice none 0 0, .int .u64 0, .bool false] 65)
        have C3 := (At.newq hs2.symm : At (w2.alloc (.cells #[.int .i64 0, .slice none 0 0, .slice none 0 0, .int .u64 0, .bool false] 65)) (w.heap.size + 1 + 1) 65 #[.int .i64 0, .slice none 0 0, .slice none 0 0, .int .u64 0, .bool false])
        have F3 : Fr [] w (w2.alloc (.cells #[.int .i64 0, .slice none 0 0, .slice none 0 0, .int .u64 0, .bool false] 65)) := F2.alloc _
        rw [hw3] at A3 B3 C3 F3
        have c0 := A3.cell 0
        have c1 := A3.cell 1
        have c2 := A3.cell 2
        have c3 := A3.cell 3
        have c4 := A3.cell 4
        simp only [List.getElem?_toArray, List.getElem?_cons_zero, List.getElem?_cons_succ] at c0 c1 c2 c3 c4
        have d0 := B3.cell 0
        have d1 := B3.cell 1
        simp only [List.getElem?_toArray, List.getElem?_cons_zero, List.getElem?_cons_succ] at d0 d1
        have HA := Lib.hid A3
        have HB := Lib.hid B3
        have HC := Lib.hid C3
        have HF := Lib.hid F3
        clear A1 A2 B2 F1 F2 A3 B3 C3 F3
        go_enter Tryz.func29, Tryz.ntmps29
        go_upto_region 2 with (fail)
        go_wp2_with (first | (refine wpList_load_all rfl 65 (.tmp 2) rfl w.heap.size rfl 65 #[.int .i64 (b : Nat), .slice wa wn wc, .slice la ln lc, .int .u64 ep, .bool un] HA.out _ Tryz.underlying65 rfl (by kernel_rfl) ?_) | (refine wpList_store_all rfl 65 (.tmp 4) (.tmp 46) rfl (w.heap.size + 1 + 1) #[.int .i64 (b : Nat), .slice wa wn wc, .slice la ln lc, .int .u64 ep, .bool un] rfl rfl 65 #[.int .i64 0, .slice none 0 0, .slice none 0 0, .int .u64 0, .bool false] HC.out (by kernel_rfl) rfl (by simp [Value.oneCell']) ?_; intro w9 hA9 hF9))
        exact bodyPost_ret (res_row_tmpR rfl _ _ (w.heap.size + 1 + 1) 65 _ _ rfl hA9 Tryz.underlying65 rfl (by kernel_rfl)) rfl ⟨rfl, (HF.out).trans hF9 (by simp <;> omega)⟩
    · have e2 : ((s : Int) % 16 != 0) = true := by simp; omega
      clear hbad h1 h2
      obtain ⟨w1, hw1⟩ : ∃ W, w.alloc (.cells #[.int .i64 (b : Nat), .slice wa wn wc, .slice la ln lc, .int .u64 ep, .bool un] 65) = W := ⟨_, rfl⟩
      have A1 := At.new w 65 #[.int .i64 (b : Nat), .slice wa wn wc, .slice la ln lc, .int .u64 ep, .bool un]
      have F1 : Fr [] w (w.alloc (.cells #[.int .i64 (b : Nat), .slice wa wn wc, .slice la ln lc, .int .u64 ep, .bool un] 65)) := (by repeat (first | exact Fr.refl _ _ | assumption | refine Fr.trans0 ?_ (by assumption) | refine Fr.drewN ?_ _ | refine Fr.alloc ?_ _ | refine Fr.drew ?_))
      have hs1 : w1.heap.size = w.heap.size + 1 := by rw [← hw1]; exact World.size_alloc _ _
      rw [hw1] at A1 F1
      obtain ⟨w2, hw2⟩ : ∃ W, w1.alloc (.cells #[.int .u32 (a : Int), .int .u32 s] 45) = W := ⟨_, rfl⟩
      have A2 := A1.old (.cells #[.int .u32 (a : Int), .int .u32 s] 45)
      have B2 := (At.newq hs1.symm : At (w1.alloc (.cells #[.int .u32 (a : Int), .int .u32 s] 45)) (w.heap.size + 1) 45 #[.int .u32 (a : Int), .int .u32 s])
      have F2 : Fr [] w (w1.alloc (.cells #[.int .u32 (a : Int), .int .u32 s] 45)) := F1.alloc _
      have hs2 : w2.heap.size = w.heap.size + 1 + 1 := by rw [← hw2, World.size_alloc, hs1]
      rw [hw2] at A2 B2 F2
      obtain ⟨w3, hw3⟩ : ∃ W, w2.alloc (.cells #[.int .i64 0, .slice none 0 0, .slice none 0 0, .int .u64 0, .bool false] 65) = W := ⟨_, rfl⟩
      have A3 := A2.old (.cells #[.int .i64 0, .slice none 0 0, .slice none 0 0, .int .u64 0, .bool false] 65)
      have B3 := B2.old (.cells #[.int .i64 0, .slice none 0 0, .slice none 0 0, .int .u64 0, .bool false] 65)
      have C3 := (At.newq hs2.symm : At (w2.alloc (.cells #[.int .i64 0, .slice none 0 0, .slice none 0 0, .int .u64 0, .bool false] 65)) (w.heap.size + 1 + 1) 65 #[.int .i64 0, .slice none 0 0, .slice none 0 0, .int .u64 0, .bool false])
      have F3 : Fr [] w (w2.alloc (.cells #[.int .i64 0, .slice none 0 0, .slice none 0 0, .int .u64 0, .bool false] 65)) := F2.alloc _
      rw [hw3] at A3 B3 C3 F3
      have c0 := A3.cell 0
      have c1 := A3.cell 1
      have c2 := A3.cell 2
      have c3 := A3.cell 3
      have c4 := A3.cell 4
      simp only [List.getElem?_toArray, List.getElem?_cons_zero, List.getElem?_cons_succ] at c0 c1 c2 c3 c4
      have d0 := B3.cell 0
      have d1 := B3.cell 1
      simp only [List.getElem?_toArray, List.getElem?_cons_zero, List.getElem?_cons_succ] at d0 d1
      have HA := Lib.hid A3
      have HB := Lib.hid B3
      have HC := Lib.hid C3
      have HF := Lib.hid F3
      clear A1 A2 B2 F1 F2 A3 B3 C3 F3
      go_enter Tryz.func29, Tryz.ntmps29
      go_upto_region 2 with (fail)
      go_wp2_with (first | (refine wpList_load_all rfl 65 (.tmp 2) rfl w.heap.size rfl 65 #[.int .i64 (b : Nat), .slice wa wn wc, .slice la ln lc, .int .u64 ep, .bool un] HA.out _ Tryz.underlying65 rfl (by kernel_rfl) ?_) | (refine wpList_store_all rfl 65 (.tmp 4) (.tmp 46) rfl (w.heap.size + 1 + 1) #[.int .i64 (b : Nat), .slice wa wn wc, .slice la ln lc, .int .u64 ep, .bool un] rfl rfl 65 #[.int .i64 0, .slice none 0 0, .slice none 0 0, .int .u64 0, .bool false] HC.out (by kernel_rfl) rfl (by simp [Value.oneCell']) ?_; intro w9 hA9 hF9))
      exact bodyPost_ret (res_row_tmpR rfl _ _ (w.heap.size + 1 + 1) 65 _ _ rfl hA9 Tryz.underlying65 rfl (by kernel_rfl)) rfl ⟨rfl, (HF.out).trans hF9 (by simp <;> omega)⟩
  · have e1 : ((a : Int) % 16 != 0) = true := by simp; omega
    clear hbad h1
    obtain ⟨w1, hw1⟩ : ∃ W, w.alloc (.cells #[.int .i64 (b : Nat), .slice wa wn wc, .slice la ln lc, .int .u64 ep, .bool un] 65) = W := ⟨_, rfl⟩
    have A1 := At.new w 65 #[.int .i64 (b : Nat), .slice wa wn wc, .slice la ln lc, .int .u64 ep, .bool un]
    have F1 : Fr [] w (w.alloc (.cells #[.int .i64 (b : Nat), .slice wa wn wc, .slice la ln lc, .int .u64 ep, .bool un] 65)) := (by repeat (first | exact Fr.refl _ _ | assumption | refine Fr.trans0 ?_ (by assumption) | refine Fr.drewN ?_ _ | refine Fr.alloc ?_ _ | refine Fr.drew ?_))
    have hs1 : w1.heap.size = w.heap.size + 1 := by rw [← hw1]; exact World.size_alloc _ _
    rw [hw1] at A1 F1
    obtain ⟨w2, hw2⟩ : ∃ W, w1.alloc (.cells #[.int .u32 (a : Int), .int .u32 s] 45) = W := ⟨_, rfl⟩
    have A2 := A1.old (.cells #[.int .u32 (a : Int), .int .u32 s] 45)
    have B2 := (At.newq hs1.symm : At (w1.alloc (.cells #[.int .u32 (a : Int), .int .u32 s] 45)) (w.heap.size + 1) 45 #[.int .u32 (a : Int), .int .u32 s])
    have F2 : Fr [] w (w1.alloc (.cells #[.int .u32 (a : Int), .int .u32 s] 45)) := F1.alloc _
    have hs2 : w2.heap.size = w.heap.size + 1 + 1 := by rw [← hw2, World.size_alloc, hs1]
    rw [hw2] at A2 B2 F2
    obtain ⟨w3, hw3⟩ : ∃ W, w2.alloc (.cells #[.int .i64 0, .slice none 0 0, .slice none 0 0, .int .u64 0, .bool false] 65) = W := ⟨_, rfl⟩
    have A3 := A2.old (.cells #[.int .i64 0, .slice none 0 0, .slice none 0 0, .int .u64 0, .bool false] 65)
    have B3 := B2.old (.cells #[.int .i64 0, .slice none 0 0, .slice none 0 0, .int .u64 0, .bool false] 65)
    have C3 := (At.newq hs2.symm : At (w2.alloc (.cells #[.int .i64 0, .slice none 0 0, .slice none 0 0, .int .u64 0, .bool false] 65)) (w.heap.size + 1 + 1) 65 #[.int .i64 0, .slice none 0 0, .slice none 0 0, .int .u64 0, .bool false])
    have F3 : Fr [] w (w2.alloc (.cells #[.int .i64 0, .slice none 0 0, .slice none 0 0, .int .u64 0, .bool false] 65)) := F2.alloc _
    rw [hw3] at A3 B3 C3 F3
    have c0 := A3.cell 0
    have c1 := A3.cell 1
    have c2 := A3.cell 2
    have c3 := A3.cell 3
    have c4 := A3.cell 4
    simp only [List.getElem?_toArray, List.getElem?_cons_zero, List.getElem?_cons_succ] at c0 c1 c2 c3 c4
    have d0 := B3.cell 0
    have d1 := B3.cell 1
    simp only [List.getElem?_toArray, List.getElem?_cons_zero, List.getElem?_cons_succ] at d0 d1
    have HA := Lib.hid A3
    have HB := Lib.hid B3
    have HC := Lib.hid C3
    have HF := Lib.hid F3
    clear A1 A2 B2 F1 F2 A3 B3 C3 F3
    go_enter Tryz.func29, Tryz.ntmps29
    go_upto_region 2 with (fail)
    go_wp2_with (first | (refine wpList_load_all rfl 65 (.tmp 2) rfl w.heap.size rfl 65 #[.int .i64 (b : Nat), .slice wa wn wc, .slice la ln lc, .int .u64 ep, .bool un] HA.out _ Tryz.underlying65 rfl (by kernel_rfl) ?_) | (refine wpList_store_all rfl 65 (.tmp 4) (.tmp 46) rfl (w.heap.size + 1 + 1) #[.int .i64 (b : Nat), .slice wa wn wc, .slice la ln lc, .int .u64 ep, .bool un] rfl rfl 65 #[.int .i64 0, .slice none 0 0, .slice none 0 0, .int .u64 0, .bool false] HC.out (by kernel_rfl) rfl (by simp [Value.oneCell']) ?_; intro w9 hA9 hF9))
    exact bodyPost_ret (res_row_tmpR rfl _ _ (w.heap.size + 1 + 1) 65 _ _ rfl hA9 Tryz.underlying65 rfl (by kernel_rfl)) rfl ⟨rfl, (HF.out).trans hF9 (by simp <;> omega)⟩
end
section
variable (w : World) (b : Nat) (wa : Option Addr) (wc : Nat) (la : Option Addr) (lc : Nat) (ep : Nat) (un : Bool) (hb : b ≤ 262144) (a s : Nat) (ha : a < 4294967296) (hs : s < 4294967296)
  (lw lb : List (Nat × Nat)) (bw bl : Nat) (hW : w.ownsRow bw 45 2 (.slice wa lw.length wc) lw.length (rgv lw)) (hL : w.ownsRow bl 45 2 (.slice la lb.length lc) lb.length (rgv lb))
  (hbw : ∀ q ∈ lw, q.1 < 4294967296 ∧ q.2 < 4294967296) (hbl : ∀ q ∈ lb, q.1 < 4294967296 ∧ q.2 < 4294967296) (hnw : lw.length ≤ 100000) (hnl : lb.length ≤ 100000)
  (h1 : a % 16 = 0) (h2 : s % 16 = 0) (h3 : 0 < s) (h4 : a + s ≤ b)
include hb ha hs hW hL hbw hbl hnw hnl h1 h2 h3 h4
set_option maxHeartbeats 2000000 in
set_option maxRecDepth 100000 in
theorem rfree_hit (hm : (ref16.mts lw (a, s) || ref16.mts lb (a, s)) = true) : Calls Tryz.prog 29 #[.agg (ryc (b : Nat) wa lw.length wc la lb.length lc ep un), .agg #[.int .u32 a, .int .u32 s]] w fun e w' => e = .returned (.tuple #[.agg (ryc (b : Nat) wa lw.length wc la lb.length lc ep un), .bool false]) ∧ Fr [] w w' := by
  have hwb : IntKind.u64.wrap (b : Int) = (b : Int) := by simp [IntKind.wrap, IntKind.signed, IntKind.bits]; omega
  have t1 : (a : Int).tmod 16 = (a : Int) % 16 := Int.tmod_eq_emod_of_nonneg (by omega)
  have t2 : (s : Int).tmod 16 = (s : Int) % 16 := Int.tmod_eq_emod_of_nonneg (by omega)
  have e1 : ((a : Int) % 16 != 0) = false := by simp; omega
  have e2 : ((s : Int) % 16 != 0) = false := by simp; omega
  have e3 : ((s : Int) == 0) = false := by simp; omega
  have e4 : decide ((b : Int) < (a : Int) + (s : Int)) = false := decide_eq_false (by omega)
  obtain ⟨wn, hwn⟩ : ∃ n, lw.length = n := ⟨_, rfl⟩
  obtain ⟨ln, hln⟩ : ∃ n, lb.length = n := ⟨_, rfl⟩
  rw [hwn, hln]
  rw [hwn] at hW
  rw [hln] at hL
  have CM1 := Lib.hid fun W (h : Fr [] w W) => (show Calls Tryz.prog 76 #[.slice wa wn wc, .agg #[.int .u32 (a : Int), .int .u32 s]] W fun e w' => e = .returned (.bool (ref16.mts lw (a, s))) ∧ Fr [] W w' from rmeets_any W (.slice wa wn wc) lw bw (by rw [hwn]; exact own_fr0 hW h) hbw (by omega) a s ha hs)
  have CM2 := Lib.hid fun W (h : Fr [] w W) => (show Calls Tryz.prog 76 #[.slice la ln lc, .agg #[.int .u32 (a : Int), .int .u32 s]] W fun e w' => e = .returned (.bool (ref16.mts lb (a, s))) ∧ Fr [] W w' from rmeets_any W (.slice la ln lc) lb bl (by rw [hln]; exact own_fr0 hL h) hbl (by omega) a s ha hs)
  have CW := Lib.hid fun W (h : Fr [] w W) => (show Calls Tryz.prog 77 #[.slice wa wn wc, .agg #[.int .u32 (a : Int), .int .u32 s]] W fun e w' => ∃ u, e = .returned u ∧ w'.ownsRow W.heap.size 45 2 u (wn + 1) (rgv (ref16.wth lw (a, s))) ∧ Fr [] W w' from by
    have := rwith_any W (.slice wa wn wc) lw bw (by rw [hwn]; exact own_fr0 hW h) hbw (by omega) a s ha hs
    rw [hwn] at this
    exact this)
  obtain ⟨M1, hM1⟩ : ∃ M, ref16.mts lw (a, s) = M := ⟨_, rfl⟩
  obtain ⟨M2, hM2⟩ : ∃ M, ref16.mts lb (a, s) = M := ⟨_, rfl⟩
  rw [hM1] at CM1
  rw [hM2] at CM2
  obtain ⟨LW, hLW⟩ : ∃ L, ref16.wth lw (a, s) = L := ⟨_, rfl⟩
  rw [hLW] at CW
  unfold ryc
  rw [hM1, hM2] at hm
  clear h1 h2 h3 h4 hW hL hbw hbl hwn hln hM1 hM2 hLW CW
  cases M1 with
  | true =>
    clear hm
    obtain ⟨w1, hw1⟩ : ∃ W, w.alloc (.cells #[.int .i64 (b : Nat), .slice wa wn wc, .slice la ln lc, .int .u64 ep, .bool un] 65) = W := ⟨_, rfl⟩
    have A1 := At.new w 65 #[.int .i64 (b : Nat), .slice wa wn wc, .slice la ln lc, .int .u64 ep, .bool un]
    have F1 : Fr [] w (w.alloc (.cells #[.int .i64 (b : Nat), .slice wa wn wc, .slice la ln lc, .int .u64 ep, .bool un] 65)) := (by repeat (first | exact Fr.refl _ _ | assumption | refine Fr.trans0 ?_ (by assumption) | refine Fr.drewN ?_ _ | refine Fr.alloc ?_ _ | refine Fr.drew ?_))
    have hs1 : w1.heap.size = w.heap.size + 1 := by rw [← hw1]; exact World.size_alloc _ _
    rw [hw1] at A1 F1
    obtain ⟨w2, hw2⟩ : ∃ W, w1.alloc (.cells #[.int .u32 (a : Int), .int .u32 s] 45) = W := ⟨_, rfl⟩
    have A2 := A1.old (.cells #[.int .u32 (a : Int), .int .u32 s] 45)
    have B2 := (At.newq hs1.symm : At (w1.alloc (.cells #[.int .u32 (a : Int), .int .u32 s] 45)) (w.heap.size + 1) 45 #[.int .u32 (a : Int), .int .u32 s])
    have F2 : Fr [] w (w1.alloc (.cells #[.int .u32 (a : Int), .int .u32 s] 45)) := F1.alloc _
    have hs2 : w2.heap.size = w.heap.size + 1 + 1 := by rw [← hw2, World.size_alloc, hs1]
    rw [hw2] at A2 B2 F2
    obtain ⟨w3, hw3⟩ : ∃ W, w2.alloc (.cells #[.int .i64 0, .slice none 0 0, .slice none 0 0, .int .u64 0, .bool false] 65) = W := ⟨_, rfl⟩
    have A3 := A2.old (.cells #[.int .i64 0, .slice none 0 0, .slice none 0 0, .int .u64 0, .bool false] 65)
    have B3 := B2.old (.cells #[.int .i64 0, .slice none 0 0, .slice none 0 0, .int .u64 0, .bool false] 65)
    have C3 := (At.newq hs2.symm : At (w2.alloc (.cells #[.int .i64 0, .slice none 0 0, .slice none 0 0, .int .u64 0, .bool false] 65)) (w.heap.size + 1 + 1) 65 #[.int .i64 0, .slice none 0 0, .slice none 0 0, .int .u64 0, .bool false])
    have F3 : Fr [] w (w2.alloc (.cells #[.int .i64 0, .slice none 0 0, .slice none 0 0, .int .u64 0, .bool false] 65)) := F2.alloc _
    rw [hw3] at A3 B3 C3 F3
    have c0 := A3.cell 0
    have c1 := A3.cell 1
    have c2 := A3.cell 2
    have c3 := A3.cell 3
    have c4 := A3.cell 4
    simp only [List.getElem?_toArray, List.getElem?_cons_zero, List.getElem?_cons_succ] at c0 c1 c2 c3 c4
    have d0 := B3.cell 0
    have d1 := B3.cell 1
    simp only [List.getElem?_toArray, List.getElem?_cons_zero, List.getElem?_cons_succ] at d0 d1
    have HA := Lib.hid A3
    have HB := Lib.hid B3
    have HC := Lib.hid C3
    have HF := Lib.hid F3
    clear A1 A2 B2 F1 F2 A3 B3 C3 F3
    go_enter Tryz.func29, Tryz.ntmps29
    go_wp2_with fail
    refine (CM1.out _ HF.out).mono ?_
    rintro e w5 ⟨rfl, hf5⟩
    -- behind a call: hf5 frame, from facts HA HB HC HF
    have HA5 := Lib.hid (HA.out.fr hf5 (by simp))
    have HB5 := Lib.hid (HB.out.fr hf5 (by simp))
    have HC5 := Lib.hid (HC.out.fr hf5 (by simp))
    have HF5 := Lib.hid (HF.out.trans0 hf5)
    have p50 := HA5.out.cell 0
    have p51 := HA5.out.cell 1
    have p52 := HA5.out.cell 2
    have p53 := HA5.out.cell 3
    have p54 := HA5.out.cell 4
    simp only [List.getElem?_toArray, List.getElem?_cons_zero, List.getElem?_cons_succ] at p50 p51 p52 p53 p54
    have q50 := HB5.out.cell 0
    have q51 := HB5.out.cell 1
    simp only [List.getElem?_toArray, List.getElem?_cons_zero, List.getElem?_cons_succ] at q50 q51
    clear hf5
    go_upto_region 2 with (fail)
    go_wp2_with (first | (refine wpList_load_all rfl 65 (.tmp 2) rfl w.heap.size rfl 65 #[.int .i64 (b : Nat), .slice wa wn wc, .slice la ln lc, .int .u64 ep, .bool un] HA5.out _ Tryz.underlying65 rfl (by kernel_rfl) ?_) | (refine wpList_store_all rfl 65 (.tmp 4) (.tmp 46) rfl (w.heap.size + 1 + 1) #[.int .i64 (b : Nat), .slice wa wn wc, .slice la ln lc, .int .u64 ep, .bool un] rfl rfl 65 #[.int .i64 0, .slice none 0 0, .slice none 0 0, .int .u64 0, .bool false] HC5.out (by kernel_rfl) rfl (by simp [Value.oneCell']) ?_; intro w9 hA9 hF9))
    exact bodyPost_ret (res_row_tmpR rfl _ _ (w.heap.size + 1 + 1) 65 _ _ rfl hA9 Tryz.underlying65 rfl (by kernel_rfl)) rfl ⟨rfl, (HF5.out).trans hF9 (by simp <;> omega)⟩
  | false =>
    rw [Bool.false_or] at hm
    subst hm
    obtain ⟨w1, hw1⟩ : ∃ W, w.alloc (.cells #[.int .i64 (b : Nat), .slice wa wn wc, .slice la ln lc, .int .u64 ep, .bool un] 65) = W := ⟨_, rfl⟩
    have A1 := At.new w 65 #[.int .i64 (b : Nat), .slice wa wn wc, .slice la ln lc, .int .u64 ep, .bool un]
    have F1 : Fr [] w (w.alloc (.cells #[.int .i64 (b : Nat), .slice wa wn wc, .slice la ln lc, .int .u64 ep, .bool un] 65)) := (by repeat (first | exact Fr.refl _ _ | assumption | refine Fr.trans0 ?_ (by assumption) | refine Fr.drewN ?_ _ | refine Fr.alloc ?_ _ | refine Fr.drew ?_))
    have hs1 : w1.heap.size = w.heap.size + 1 := by rw [← hw1]; exact World.size_alloc _ _
    rw [hw1] at A1 F1
    obtain ⟨w2, hw2⟩ : ∃ W, w1.alloc (.cells #[.int .u32 (a : Int), .int .u32 s] 45) = W := ⟨_, rfl⟩
    have A2 := A1.old (.cells #[.int .u32 (a : Int), .int .u32 s] 45)
    have B2 := (At.newq hs1.symm : At (w1.alloc (.cells #[.int .u32 (a : Int), .int .u32 s] 45)) (w.heap.size + 1) 45 #[.int .u32 (a : Int), .int .u32 s])
    have F2 : Fr [] w (w1.alloc (.cells #[.int .u32 (a : Int), .int .u32 s] 45)) := F1.alloc _
    have hs2 : w2.heap.size = w.heap.size + 1 + 1 := by rw [← hw2, World.size_alloc, hs1]
    rw [hw2] at A2 B2 F2
    obtain ⟨w3, hw3⟩ : ∃ W, w2.alloc (.cells #[.int .i64 0, .slice none 0 0, .slice none 0 0, .int .u64 0, .bool false] 65) = W := ⟨_, rfl⟩
    have A3 := A2.old (.cells #[.int .i64 0, .slice none 0 0, .slice none 0 0, .int .u64 0, .bool false] 65)
    have B3 := B2.old (.cells #[.int .i64 0, .slice none 0 0, .slice none 0 0, .int .u64 0, .bool false] 65)
    have C3 := (At.newq hs2.symm : At (w2.alloc (.cells #[.int .i64 0, .slice none 0 0, .slice none 0 0, .int .u64 0, .bool false] 65)) (w.heap.size + 1 + 1) 65 #[.int .i64 0, .slice none 0 0, .slice none 0 0, .int .u64 0, .bool false])
    have F3 : Fr [] w (w2.alloc (.cells #[.int .i64 0, .slice none 0 0, .slice none 0 0, .int .u64 0, .bool false] 65)) := F2.alloc _
    rw [hw3] at A3 B3 C3 F3
    have c0 := A3.cell 0
    have c1 := A3.cell 1
    have c2 := A3.cell 2
    have c3 := A3.cell 3
    have c4 := A3.cell 4
    simp only [List.getElem?_toArray, List.getElem?_cons_zero, List.getElem?_cons_succ] at c0 c1 c2 c3 c4
    have d0 := B3.cell 0
    have d1 := B3.cell 1
    simp only [List.getElem?_toArray, List.getElem?_cons_zero, List.getElem?_cons_succ] at d0 d1
    have HA := Lib.hid A3
    have HB := Lib.hid B3
    have HC := Lib.hid C3
    have HF := Lib.hid F3
    clear A1 A2 B2 F1 F2 A3 B3 C3 F3
    go_enter Tryz.func29, Tryz.ntmps29
    go_wp2_with fail
    refine (CM1.out _ HF.out).mono ?_
    rintro e w5 ⟨rfl, hf5⟩
    -- behind a call: hf5 frame, from facts HA HB HC HF
    have HA5 := Lib.hid (HA.out.fr hf5 (by simp))
    have HB5 := Lib.hid (HB.out.fr hf5 (by simp))
    have HC5 := Lib.hid (HC.out.fr hf5 (by simp))
    have HF5 := Lib.hid (HF.out.trans0 hf5)
    have p50 := HA5.out.cell 0
    have p51 := HA5.out.cell 1
    have p52 := HA5.out.cell 2
    have p53 := HA5.out.cell 3
    have p54 := HA5.out.cell 4
    simp only [List.getElem?_toArray, List.getElem?_cons_zero, List.getElem?_cons_succ] at p50 p51 p52 p53 p54
    have q50 := HB5.out.cell 0
    have q51 := HB5.out.cell 1
    simp only [List.getElem?_toArray, List.getElem?_cons_zero, List.getElem?_cons_succ] at q50 q51
    clear hf5
    go_wp2_with fail
    refine (CM2.out _ HF5.out).mono ?_
    rintro e w6 ⟨rfl, hf6⟩
    -- behind a call: hf6 frame, from facts HA HB HC HF
    have HA6 := Lib.hid (HA5.out.fr hf6 (by simp))
    have HB6 := Lib.hid (HB5.out.fr hf6 (by simp))
    have HC6 := Lib.hid (HC5.out.fr hf6 (by simp))
    have HF6 := Lib.hid (HF5.out.trans0 hf6)
    have p60 := HA6.out.cell 0
    have p61 := HA6.out.cell 1
    have p62 := HA6.out.cell 2
    have p63 := HA6.out.cell 3
    have p64 := HA6.out.cell 4
    simp only [List.getElem?_toArray, List.getElem?_cons_zero, List.getElem?_cons_succ] at p60 p61 p62 p63 p64
    have q60 := HB6.out.cell 0
    have q61 := HB6.out.cell 1
    simp only [List.getElem?_toArray, List.getElem?_cons_zero, List.getElem?_cons_succ] at q60 q61
    clear hf6
    go_upto_region 2 with (fail)
    go_wp2_with (first | (refine wpList_load_all rfl 65 (.tmp 2) rfl w.heap.size rfl 65 #[.int .i64 (b : Nat), .slice wa wn wc, .slice la ln lc, .int .u64 ep, .bool un] HA6.out _ Tryz.underlying65 rfl (by kernel_rfl) ?_) | (refine wpList_store_all rfl 65 (.tmp 4) (.tmp 46) rfl (w.heap.size + 1 + 1) #[.int .i64 (b : Nat), .slice wa wn wc, .slice la ln lc, .int .u64 ep, .bool un] rfl rfl 65 #[.int .i64 0, .slice none 0 0, .slice none 0 0, .int .u64 0, .bool false] HC6.out (by kernel_rfl) rfl (by simp [Value.oneCell']) ?_; intro w9 hA9 hF9))
    exact bodyPost_ret (res_row_tmpR rfl _ _ (w.heap.size + 1 + 1) 65 _ _ rfl hA9 Tryz.underlying65 rfl (by kernel_rfl)) rfl ⟨rfl, (HF6.out).trans hF9 (by simp <;> omega)⟩
set_option maxHeartbeats 2000000 in
set_option maxRecDepth 100000 in
theorem rfree_yes (hm : (ref16.mts lw (a, s) || ref16.mts lb (a, s)) = false) : Calls Tryz.prog 29 #[.agg (ryc (b : Nat) wa lw.length wc la lb.length lc ep un), .agg #[.int .u32 a, .int .u32 s]] w fun e w' => ∃ wa' wc', e = .returned (.tuple #[.agg (ryc (b : Nat) wa' (lw.length + 1) wc' la lb.length lc ep un), .bool true]) ∧ w'.ownsRow w.heap.size 45 2 (.slice wa' (lw.length + 1) wc') (lw.length + 1) (rgv (ref16.wth lw (a, s))) ∧ Fr [] w w' := by
  have hwb : IntKind.u64.wrap (b : Int) = (b : Int) := by simp [IntKind.wrap, IntKind.signed, IntKind.bits]; omega
  have t1 : (a : Int).tmod 16 = (a : Int) % 16 := Int.tmod_eq_emod_of_nonneg (by omega)
  have t2 : (s : Int).tmod 16 = (s : Int) % 16 := Int.tmod_eq_emod_of_nonneg (by omega)
  have e1 : ((a : Int) % 16 != 0) = false := by simp; omega
  have e2 : ((s : Int) % 16 != 0) = false := by simp; omega
  have e3 : ((s : Int) == 0) = false := by simp; omega
  have e4 : decide ((b : Int) < (a : Int) + (s : Int)) = false := decide_eq_false (by omega)
  obtain ⟨wn, hwn⟩ : ∃ n, lw.length = n := ⟨_, rfl⟩
  obtain ⟨ln, hln⟩ : ∃ n, lb.length = n := ⟨_, rfl⟩
  rw [hwn, hln]
  rw [hwn] at hW
  rw [hln] at hL
  have CM1 := Lib.hid fun W (h : Fr [] w W) => (show Calls Tryz.prog 76 #[.slice wa wn wc, .agg #[.int .u32 (a : Int), .int .u32 s]] W fun e w' => e = .returned (.bool (ref16.mts lw (a, s))) ∧ Fr [] W w' from rmeets_any W (.slice wa wn wc) lw bw (by rw [hwn]; exact own_fr0 hW h) hbw (by omega) a s ha hs)
  have CM2 := Lib.hid fun W (h : Fr [] w W) => (show Calls Tryz.prog 76 #[.slice la ln lc, .agg #[.int .u32 (a : Int), .int .u32 s]] W fun e w' => e = .returned (.bool (ref16.mts lb (a, s))) ∧ Fr [] W w' from rmeets_any W (.slice la ln lc) lb bl (by rw [hln]; exact own_fr0 hL h) hbl (by omega) a s ha hs)
  have CW := Lib.hid fun W (h : Fr [] w W) => (show Calls Tryz.prog 77 #[.slice wa wn wc, .agg #[.int .u32 (a : Int), .int .u32 s]] W fun e w' => ∃ u, e = .returned u ∧ w'.ownsRow W.heap.size 45 2 u (wn + 1) (rgv (ref16.wth lw (a, s))) ∧ Fr [] W w' from by
    have := rwith_any W (.slice wa wn wc) lw bw (by rw [hwn]; exact own_fr0 hW h) hbw (by omega) a s ha hs
    rw [hwn] at this
    exact this)
  obtain ⟨M1, hM1⟩ : ∃ M, ref16.mts lw (a, s) = M := ⟨_, rfl⟩
  obtain ⟨M2, hM2⟩ : ∃ M, ref16.mts lb (a, s) = M := ⟨_, rfl⟩
  rw [hM1] at CM1
  rw [hM2] at CM2
  obtain ⟨LW, hLW⟩ : ∃ L, ref16.wth lw (a, s) = L := ⟨_, rfl⟩
  rw [hLW] at CW
  unfold ryc
  rw [hLW]
  rw [hM1, hM2, Bool.or_eq_false_iff] at hm
  obtain ⟨rfl, rfl⟩ := hm
  clear h1 h2 h3 h4 hW hL hbw hbl hwn hln hM1 hM2 hLW
  obtain ⟨w1, hw1⟩ : ∃ W, w.alloc (.cells #[.int .i64 (b : Nat), .slice wa wn wc, .slice la ln lc, .int .u64 ep, .bool un] 65) = W := ⟨_, rfl⟩
  have A1 := At.new w 65 #[.int .i64 (b : Nat), .slice wa wn wc, .slice la ln lc, .int .u64 ep, .bool un]
  have F1 : Fr [] w (w.alloc (.cells #[.int .i64 (b : Nat), .slice wa wn wc, .slice la ln lc, .int .u64 ep, .bool un] 65)) := (by repeat (first | exact Fr.refl _ _ | assumption | refine Fr.trans0 ?_ (by assumption) | refine Fr.drewN ?_ _ | refine Fr.alloc ?_ _ | refine Fr.drew ?_))
  have hs1 : w1.heap.size = w.heap.size + 1 := by rw [← hw1]; exact World.size_alloc _ _
  rw [hw1] at A1 F1
  obtain ⟨w2, hw2⟩ : ∃ W, w1.alloc (.cells #[.int .u32 (a : Int), .int .u32 s] 45) = W := ⟨_, rfl⟩
  have A2 := A1.old (.cells #[.int .u32 (a : Int), .int .u32 s] 45)
  have B2 := (At.newq hs1.symm : At (w1.alloc (.cells #[.int .u32 (a : Int), .int .u32 s] 45)) (w.heap.size + 1) 45 #[.int .u32 (a : Int), .int .u32 s])
  have F2 : Fr [] w (w1.alloc (.cells #[.int .u32 (a : Int), .int .u32 s] 45)) := F1.alloc _
  have hs2 : w2.heap.size = w.heap.size + 1 + 1 := by rw [← hw2, World.size_alloc, hs1]
  rw [hw2] at A2 B2 F2
  obtain ⟨w3, hw3⟩ : ∃ W, w2.alloc (.cells #[.int .i64 0, .slice none 0 0, .slice none 0 0, .int .u64 0, .bool false] 65) = W := ⟨_, rfl⟩
  have A3 := A2.old (.cells #[.int .i64 0, .slice none 0 0, .slice none 0 0, .int .u64 0, .bool false] 65)
  have B3 := B2.old (.cells #[.int .i64 0, .slice none 0 0, .slice none 0 0, .int .u64 0, .bool false] 65)
  have C3 := (At.newq hs2.symm : At (w2.alloc (.cells #[.int .i64 0, .slice none 0 0, .slice none 0 0, .int .u64 0, .bool false] 65)) (w.heap.size + 1 + 1) 65 #[.int .i64 0, .slice none 0 0, .slice none 0 0, .int .u64 0, .bool false])
  have F3 : Fr [] w (w2.alloc (.cells #[.int .i64 0, .slice none 0 0, .slice none 0 0, .int .u64 0, .bool false] 65)) := F2.alloc _
  rw [hw3] at A3 B3 C3 F3
  have c0 := A3.cell 0
  have c1 := A3.cell 1
  have c2 := A3.cell 2
  have c3 := A3.cell 3
  have c4 := A3.cell 4
  simp only [List.getElem?_toArray, List.getElem?_cons_zero, List.getElem?_cons_succ] at c0 c1 c2 c3 c4
  have d0 := B3.cell 0
  have d1 := B3.cell 1
  simp only [List.getElem?_toArray, List.getElem?_cons_zero, List.getElem?_cons_succ] at d0 d1
  have HA := Lib.hid A3
  have HB := Lib.hid B3
  have HC := Lib.hid C3
  have HF := Lib.hid F3
  clear A1 A2 B2 F1 F2 A3 B3 C3 F3
  go_enter Tryz.func29, Tryz.ntmps29
  go_wp2_with fail
  refine (CM1.out _ HF.out).mono ?_
  rintro e w5 ⟨rfl, hf5⟩
  -- behind a call: hf5 frame, from facts HA HB HC HF
  have HA5 := Lib.hid (HA.out.fr hf5 (by simp))
  have HB5 := Lib.hid (HB.out.fr hf5 (by simp))
  have HC5 := Lib.hid (HC.out.fr hf5 (by simp))
  have HF5 := Lib.hid (HF.out.trans0 hf5)
  have p50 := HA5.out.cell 0
  have p51 := HA5.out.cell 1
  have p52 := HA5.out.cell 2
  have p53 := HA5.out.cell 3
  have p54 := HA5.out.cell 4
  simp only [List.getElem?_toArray, List.getElem?_cons_zero, List.getElem?_cons_succ] at p50 p51 p52 p53 p54
  have q50 := HB5.out.cell 0
  have q51 := HB5.out.cell 1
  simp only [List.getElem?_toArray, List.getElem?_cons_zero, List.getElem?_cons_succ] at q50 q51
  clear hf5
  go_wp2_with fail
  refine (CM2.out _ HF5.out).mono ?_
  rintro e w6 ⟨rfl, hf6⟩
  -- behind a call: hf6 frame, from facts HA HB HC HF
  have HA6 := Lib.hid (HA5.out.fr hf6 (by simp))
  have HB6 := Lib.hid (HB5.out.fr hf6 (by simp))
  have HC6 := Lib.hid (HC5.out.fr hf6 (by simp))
  have HF6 := Lib.hid (HF5.out.trans0 hf6)
  have p60 := HA6.out.cell 0
  have p61 := HA6.out.cell 1
  have p62 := HA6.out.cell 2
  have p63 := HA6.out.cell 3
  have p64 := HA6.out.cell 4
  simp only [List.getElem?_toArray, List.getElem?_cons_zero, List.getElem?_cons_succ] at p60 p61 p62 p63 p64
  have q60 := HB6.out.cell 0
  have q61 := HB6.out.cell 1
  simp only [List.getElem?_toArray, List.getElem?_cons_zero, List.getElem?_cons_succ] at q60 q61
  clear hf6
  go_wp2_with fail
  refine (CW.out _ HF6.out).mono ?_
  rintro e w7 ⟨u, rfl, ho7, hf7⟩
  -- behind a call: hf7 frame, from facts HA HB HC HF
  have HA7 := Lib.hid (HA6.out.fr hf7 (by simp))
  have HB7 := Lib.hid (HB6.out.fr hf7 (by simp))
  have HC7 := Lib.hid (HC6.out.fr hf7 (by simp))
  have HF7 := Lib.hid (HF6.out.trans0 hf7)
  have p70 := HA7.out.cell 0
  have p71 := HA7.out.cell 1
  have p72 := HA7.out.cell 2
  have p73 := HA7.out.cell 3
  have p74 := HA7.out.cell 4
  simp only [List.getElem?_toArray, List.getElem?_cons_zero, List.getElem?_cons_succ] at p70 p71 p72 p73 p74
  have q70 := HB7.out.cell 0
  have q71 := HB7.out.cell 1
  simp only [List.getElem?_toArray, List.getElem?_cons_zero, List.getElem?_cons_succ] at q70 q71
  obtain ⟨m, hm⟩ : ∃ m, wn + 1 = m := ⟨_, rfl⟩
  rw [hm] at ho7
  obtain ⟨wa', wc', rfl, -⟩ := own_slice ho7
  have HM := Lib.hid hm
  have O7 := Lib.hid (own_base ho7 (HF6.out.size))
  clear hf7 ho7 hm
  have z1 := HA7.out.froz 1
  have A8 := HA7.out.set 1 (.slice wa' m wc')
  simp only [List.setIfInBounds_toArray, List.set_cons_zero, List.set_cons_succ] at A8
  have G8 : Fr [w.heap.size] w7 (w7.setCell ⟨w.heap.size, 1, none⟩ (.slice wa' m wc')) := (Fr.refl _ _).set (.inl (by simp)) _
  have O8 := own_fr O7.out G8 (fun g hg => by simpa using own_ne O7.out HA7.out (by decide) g hg)
  have C8 := HC7.out.fr G8 (by simp <;> omega)
  have F8 := HF7.out.trans G8 (by simp)
  obtain ⟨w8, hw8⟩ : ∃ W, w7.setCell ⟨w.heap.size, 1, none⟩ (.slice wa' m wc') = W := ⟨_, rfl⟩
  rw [hw8] at A8 O8 C8 F8
  have r0 := A8.cell 0
  have r1 := A8.cell 1
  have r2 := A8.cell 2
  have r3 := A8.cell 3
  have r4 := A8.cell 4
  simp only [List.getElem?_toArray, List.getElem?_cons_zero, List.getElem?_cons_succ] at r0 r1 r2 r3 r4
  have HA8 := Lib.hid A8
  have HO8 := Lib.hid O8
  have HC8 := Lib.hid C8
  have HF8 := Lib.hid F8
  clear A8 O8 C8 F8 G8
  go_upto_region 4 with (fail)
  go_wp2_with (first | (refine wpList_load_all rfl 65 (.tmp 2) rfl w.heap.size rfl 65 #[.int .i64 (b : Nat), .slice wa' m wc', .slice la ln lc, .int .u64 ep, .bool un] HA8.out _ Tryz.underlying65 rfl (by kernel_rfl) ?_) | (refine wpList_store_all rfl 65 (.tmp 4) (.tmp 52) rfl (w.heap.size + 1 + 1) #[.int .i64 (b : Nat), .slice wa' m wc', .slice la ln lc, .int .u64 ep, .bool un] rfl rfl 65 #[.int .i64 0, .slice none 0 0, .slice none 0 0, .int .u64 0, .bool false] HC8.out (by kernel_rfl) rfl (by simp [Value.oneCell']) ?_; intro w9 hA9 hF9))
  obtain rfl := HM.out
  exact bodyPost_ret (res_row_tmpR rfl _ _ (w.heap.size + 1 + 1) 65 _ _ rfl hA9 Tryz.underlying65 rfl (by kernel_rfl)) rfl ⟨wa', wc', rfl, own_fr HO8.out hF9 (fun g hg => by simpa using own_ne HO8.out HC8.out (by decide) g hg), HF8.out.trans hF9 (by simp <;> omega)⟩
end
end Go.Proofs.YthjbnbimfpbccaaGreatDoor
/-
  The reference's Has and Begin. Condition: numbers in their types' ranges.
-/



set_option linter.unusedVariables false
namespace Go.Proofs.YthjbnbimfpbccaaGreatDoor
open Go.ChangeShapes Go.WideShapes Go.ChangeAt Go.RowKit
end Go.Proofs.YthjbnbimfpbccaaGreatDoor
/-
  The reference's Same, of two rows of one list. Condition: the sizes that the law names.
-/



set_option linter.unusedVariables false
namespace Go.Proofs.YthjbnbimfpbccaaGreatDoor
open Go.ChangeShapes Go.WideShapes Go.ChangeAt Go.RowKit
set_option maxHeartbeats 1000000 in
set_option maxRecDepth 100000 in
theorem rsame_any (w : World) (v u : Value) (l : List (Nat × Nat)) (b b' : Nat) (hv : w.ownsRow b 45 2 v l.length (rgv l)) (hu : w.ownsRow b' 45 2 u l.length (rgv l)) (hn : l.length ≤ 1000000) :
    Calls Tryz.prog 35 #[v, u] w fun e w' => e = .returned (.bool true) ∧ Fr [] w w' := by
  have HV := Lib.hid hv
  have HU := Lib.hid hu
  obtain ⟨va, vc, rfl, -⟩ := own_slice hv
  obtain ⟨ua, uc, rfl, -⟩ := own_slice hu
  obtain ⟨n, hn'⟩ : ∃ n, l.length = n := ⟨_, rfl⟩
  rw [hn'] at hn HV HU ⊢
  have HN := Lib.hid hn'
  clear hv hu hn'
  go_enter Tryz.func35, Tryz.ntmps35
  go_wp2_with fail
  go_loopw [5] (fun i wr => ∃ k : Nat, k ≤ n ∧ i = .int .i64 k ∧ Fr [] w wr) (fun i _ => n - (intOf i).toNat)
  case atStart => exact ⟨0, by omega, rfl, by first | exact Fr.refl _ _ | exact (by repeat (first | exact Fr.refl _ _ | assumption | refine Fr.trans0 ?_ (by assumption) | refine Fr.drewN ?_ _ | refine Fr.alloc ?_ _ | refine Fr.drew ?_))⟩
  case round =>
    obtain ⟨k, hk, rfl, hf⟩ := hrel
    have HF := Lib.hid hf
    clear hf
    by_cases h1 : k < n
    · obtain ⟨r, hr⟩ : ∃ r, l[k]? = some r := ⟨_, List.getElem?_eq_getElem (by rw [HN.out]; exact h1)⟩
      rcases rows_open HV.out with ⟨_, h0⟩ | ⟨g, cap, cur, hv, -, hA, g1, g2, g3, g4⟩
      · omega
      · rcases rows_open HU.out with ⟨_, h0⟩ | ⟨g', cap', cur', hu, -, hA', g1', g2', g3', g4'⟩
        · omega
        · injection hv with e1 e2 e3
          subst e1 e3
          injection hu with e1 e2 e3
          subst e1 e3
          have q0 := rows_at (n := n) (cap := vc) hA g4 (k * 2) 0 (.int .u32 (r.1 : Nat)) (by rw [List.getElem?_drop]; exact (rgv_get _ k r hr).1)
          have q1 := rows_at (n := n) (cap := vc) hA g4 (k * 2) 1 (.int .u32 (r.2 : Nat)) (by rw [List.getElem?_drop]; exact (rgv_get _ k r hr).2)
          have p0 := rows_at (n := n) (cap := uc) hA' g4' (k * 2) 0 (.int .u32 (r.1 : Nat)) (by rw [List.getElem?_drop]; exact (rgv_get _ k r hr).1)
          have p1 := rows_at (n := n) (cap := uc) hA' g4' (k * 2) 1 (.int .u32 (r.2 : Nat)) (by rw [List.getElem?_drop]; exact (rgv_get _ k r hr).2)
          obtain ⟨a, s⟩ := r
          dsimp only at q0 q1 p0 p1
          have Q0 := Lib.hid q0
          have Q1 := Lib.hid q1
          have P0 := Lib.hid p0
          have P1 := Lib.hid p1
          have HGL := Lib.hid hA.lt
          have HGR := Lib.hid hA'.lt
          have EQ := fun w => rg_eq (a : Int) s a s w
          simp only [decide_true, Bool.and_true] at EQ
          have hki : (k : Int) < n := by omega
          clear hr hA g1 g2 g3 g4 hA' g1' g2' g3' g4' q0 q1 p0 p1
          go_wp2_with fail
          refine wp_region_L (fun W => Fr [] wr W) [] (by kernel_rfl) (Fr.refl _ _).drew (fun hHeld => ?_)
          refine wpAnyL_take (i := 0) (v := ?_) rfl (by kernel_rfl) (fun _ _ _ h => h) (Or.inl ⟨by rfl, ?_⟩) (by assumption) ?_; rotate_left; (focus (intro w hSw; skip; go_simp; (try with_reducible rfl))); (try (refine wpAnyL_norm (by simp only [Act.put, List.setIfInBounds_toArray, List.set_cons_zero, List.set_cons_succ]; rfl) ?_))
          refine wpAnyL_take (i := 1) (v := ?_) rfl (by kernel_rfl) (fun _ _ _ h => h) (Or.inl ⟨by rfl, ?_⟩) (by assumption) ?_; rotate_left; (focus (intro w hSw; skip; go_simp; (try with_reducible rfl))); (try (refine wpAnyL_norm (by simp only [Act.put, List.setIfInBounds_toArray, List.set_cons_zero, List.set_cons_succ]; rfl) ?_))
          refine wpAnyL_take (i := 2) (v := ?_) rfl (by kernel_rfl) (fun _ _ _ h => h) (Or.inl ⟨by rfl, ?_⟩) (by assumption) ?_; rotate_left; (focus (intro w hSw; skip; go_simp; (try with_reducible rfl))); (try (refine wpAnyL_norm (by simp only [Act.put, List.setIfInBounds_toArray, List.set_cons_zero, List.set_cons_succ]; rfl) ?_))
          refine wpAnyL_take (i := 3) rfl (by kernel_rfl) (fun _ _ _ h => h) (yields_load_at 45 (.tmp 19) rfl ⟨g, k * 2, none⟩ rfl [.int .u32 a, .int .u32 s] _ (fun W h jj v hv => by
            rw [Go.WideShapes.add_plain]
            match jj, hv with
            | 0, hv => exact (((HF.out.trans0 h).cell (a := ⟨g, k * 2 + 0, none⟩) HGL.out (by simp)).trans Q0.out).trans hv
            | 1, hv => exact (((HF.out.trans0 h).cell (a := ⟨g, k * 2 + 1, none⟩) HGL.out (by simp)).trans Q1.out).trans hv) Tryz.underlying45 rfl infoRgS rfl) (by assumption) ?_; (try (refine wpAnyL_norm (by simp only [Act.put, List.setIfInBounds_toArray, List.set_cons_zero, List.set_cons_succ]; rfl) ?_))
          refine wpAnyL_take (i := 4) (v := ?_) rfl (by kernel_rfl) (fun _ _ _ h => h) (Or.inl ⟨by rfl, ?_⟩) (by assumption) ?_; rotate_left; (focus (intro w hSw; skip; go_simp; (try with_reducible rfl))); (try (refine wpAnyL_norm (by simp only [Act.put, List.setIfInBounds_toArray, List.set_cons_zero, List.set_cons_succ]; rfl) ?_))
          refine wpAnyL_take (i := 5) (v := ?_) rfl (by kernel_rfl) (fun _ _ _ h => h) (Or.inl ⟨by rfl, ?_⟩) (by assumption) ?_; rotate_left; (focus (intro w hSw; skip; go_simp; (try with_reducible rfl))); (try (refine wpAnyL_norm (by simp only [Act.put, List.setIfInBounds_toArray, List.set_cons_zero, List.set_cons_succ]; rfl) ?_))
          refine wpAnyL_take (i := 6) (v := ?_) rfl (by kernel_rfl) (fun _ _ _ h => h) (Or.inl ⟨by rfl, ?_⟩) (by assumption) ?_; rotate_left; (focus (intro w hSw; skip; go_simp; (try with_reducible rfl))); (try (refine wpAnyL_norm (by simp only [Act.put, List.setIfInBounds_toArray, List.set_cons_zero, List.set_cons_succ]; rfl) ?_))
          refine wpAnyL_take (i := 7) rfl (by kernel_rfl) (fun _ _ _ h => h) (yields_load_at 45 (.tmp 23) rfl ⟨g', k * 2, none⟩ rfl [.int .u32 a, .int .u32 s] _ (fun W h jj v hv => by
            rw [Go.WideShapes.add_plain]
            match jj, hv with
            | 0, hv => exact (((HF.out.trans0 h).cell (a := ⟨g', k * 2 + 0, none⟩) HGR.out (by simp)).trans P0.out).trans hv
            | 1, hv => exact (((HF.out.trans0 h).cell (a := ⟨g', k * 2 + 1, none⟩) HGR.out (by simp)).trans P1.out).trans hv) Tryz.underlying45 rfl infoRgS rfl) (by assumption) ?_; (try (refine wpAnyL_norm (by simp only [Act.put, List.setIfInBounds_toArray, List.set_cons_zero, List.set_cons_succ]; rfl) ?_))
          refine wpAnyL_take (i := 8) (v := ?_) rfl (by kernel_rfl) (fun _ _ _ h => h) (Or.inl ⟨by rfl, ?_⟩) (by assumption) ?_; rotate_left; (focus (intro w hSw; skip; go_simp; (try with_reducible rfl))); (try (refine wpAnyL_norm (by simp only [Act.put, List.setIfInBounds_toArray, List.set_cons_zero, List.set_cons_succ]; rfl) ?_))
          refine wpAnyL_done (by kernel_rfl) ?_ _
          have F6 := Lib.hid (HF.out.trans0 hHeld)
          clear hHeld
          go_wp2_with fail
          go_roundw
          case rel => exact ⟨k + 1, by omega, by go_num, F6.out⟩
          case measure => simp [intOf]; omega
    · obtain rfl : k = n := by omega
      go_wp2_with fail
      go_ret
      exact ⟨rfl, HF.out⟩
end Go.Proofs.YthjbnbimfpbccaaGreatDoor
/-
  same: a yard against the reference's. Condition: the two hold the same.
-/



set_option linter.unusedVariables false
namespace Go.Proofs.YthjbnbimfpbccaaGreatDoor
open Go.ChangeShapes Go.WideShapes Go.ChangeAt Go.RowKit
end Go.Proofs.YthjbnbimfpbccaaGreatDoor
/-
  The reference's yard in a variable, beside a yard: what keeps it; the two answer alike. Condition: a million sweeps at most.
-/



set_option linter.unusedVariables false
namespace Go.Proofs.YthjbnbimfpbccaaGreatDoor
open Go.ChangeShapes Go.WideShapes Go.ChangeAt Go.RowKit
section
variable {w0 w w' : World} {y q n : Nat} {m m' : MS} {s s' : YS} {cs : Array Value} {wa la : Option Addr} {wc lc : Nat}
theorem offR {a b c : Nat} {f : Nat → Bool} (h : Pt w a b c n f) (hq : At w q 65 cs) : a ≠ q ∧ b ≠ q ∧ c ≠ q := by
  obtain ⟨⟨_, h1⟩, ⟨_, h2⟩, ⟨_, h3⟩⟩ := Pt.blocks h
  refine ⟨?_, ?_, ?_⟩
  · rintro rfl; exact absurd (h1.inj hq).1 (by decide)
  · rintro rfl; exact absurd (h2.inj hq).1 (by decide)
  · rintro rfl; exact absurd (h3.inj hq).1 (by decide)
theorem Yw.nfootR (h : Yw w0 w y m s) (hq : At w q 65 cs) : q ∉ s.foot := fun hk => by
  unfold YS.foot at hk
  rcases List.mem_cons.1 hk with e | hk
  · subst e; exact absurd (h.yd.at_.inj hq).1 (by decide)
  · rcases List.mem_cons.1 hk with e | hk
    · exact (offR h.yd.wt.pt hq).2.2 e.symm
    · cases hv : s.wv.ownBlock with
      | none => rw [hv] at hk; simp at hk
      | some g => rw [hv] at hk; simp at hk; exact own_ne h.yd.wt.own hq (by decide) g hv hk.symm
theorem Yw.offR (h : Yw w0 w y m s) (hq : At w q 65 cs) (hq0 : w0.heap.size ≤ q) (f : Fr [q] w w') : Yw w0 w' y m s := by
  have a1 := Go.Proofs.YthjbnbimfpbccaaGreatDoor.offR h.yd.wt.pt hq
  have a2 := Go.Proofs.YthjbnbimfpbccaaGreatDoor.offR h.yd.bt.pt hq
  have a3 := own_ne h.yd.wt.own hq (by decide)
  have a4 := own_ne h.yd.bt.own hq (by decide)
  have a5 : s.y ≠ q := fun e => by have := h.yd.at_; rw [e] at this; exact absurd (this.inj hq).1 (by decide)
  exact ⟨⟨h.yd.at_.fr f (by simpa using a5), h.yd.wt.fr f (by simpa using a1.1) (by simpa using a1.2.1) (by simpa using a1.2.2) (fun g hg => by simpa using a3 g hg), h.yd.bt.fr f (by simpa using a2.1) (by simpa using a2.2.1) (by simpa using a2.2.2) (fun g hg => by simpa using a4 g hg), h.yd.ne, h.yd.apart, h.yd.up, h.yd.few⟩, h.f.trans f (by simp; omega), h.y0, h.c0, h.own, h.yy, h.ms⟩
theorem own_atR {b k size : Nat} {e : TypeId} {v : Value} {xs : List Value} (h : w.ownsRow b e size v k xs) : ∀ g, v.ownBlock = some g → ∃ t cs, At w g t cs := fun g hg => by
  rcases h.2 with ⟨rfl, _⟩ | ⟨g', cap, cur, rfl, _, hgg, _⟩
  · simp [Value.ownBlock] at hg
  · simp [Value.ownBlock] at hg; subst hg; exact ⟨e, cur, hgg⟩
theorem foot_ltR (h : Yw w0 w y m s) : ∀ k ∈ s.foot, k < w.heap.size := fun k hk => by
  unfold YS.foot at hk
  rcases List.mem_cons.1 hk with e | hk
  · subst e; exact h.yd.at_.lt
  · rcases List.mem_cons.1 hk with e | hk
    · subst e; exact h.yd.wt.lt.2.2
    · cases hv : s.wv.ownBlock with
      | none => rw [hv] at hk; simp at hk
      | some g =>
        rw [hv] at hk; simp at hk; subst hk
        obtain ⟨t, cs, ha⟩ := own_atR h.yd.wt.own k hv
        exact ha.lt
/-- The reference's yard, of what m says, in block q; apart from what the yard s may change. -/
structure Rf (w : World) (s : YS) (q n : Nat) (m : MS) (wa : Option Addr) (wc : Nat) (la : Option Addr) (lc : Nat) : Prop where
  at_ : At w q 65 (ryc (16 * n : Nat) wa m.lw.length wc la m.lb.length lc m.ep m.un)
  nq : q ∉ s.foot
  ow : w.ownsRow 0 45 2 (.slice wa m.lw.length wc) m.lw.length (rgv m.lw)
  ol : w.ownsRow 0 45 2 (.slice la m.lb.length lc) m.lb.length (rgv m.lb)
  fw : ∀ g, (Value.slice wa m.lw.length wc).ownBlock = some g → g ∉ s.foot
  fl : ∀ g, (Value.slice la m.lb.length lc).ownBlock = some g → g ∉ s.foot
theorem Rf.fr (h : Rf w s q n m wa wc la lc) (f : Fr [] w w') : Rf w' s q n m wa wc la lc := ⟨h.at_.fr f (by simp), h.nq, own_fr0 h.ow f, own_fr0 h.ol f, h.fw, h.fl⟩
theorem Rf.turn (h : Rf w s q n m wa wc la lc) (t : Turn w0 w y s m' w' s') : Rf w' s' q n m wa wc la lc := by
  have key : ∀ g, g < w.heap.size → g ∉ s.foot → g ∉ s'.foot := fun g h1 h2 hk => by
    rcases t.foot g hk with hk | hk
    · exact h2 hk
    · omega
  refine ⟨h.at_.fr t.f h.nq, key q h.at_.lt h.nq, own_fr h.ow t.f h.fw, own_fr h.ol t.f h.fl, fun g hg => key g ?_ (h.fw g hg), fun g hg => key g ?_ (h.fl g hg)⟩
  · obtain ⟨_, _, ha⟩ := own_atR h.ow g hg; exact ha.lt
  · obtain ⟨_, _, ha⟩ := own_atR h.ol g hg; exact ha.lt
/-- Another yard, whose changing blocks are newer. -/
theorem Rf.other (h : Rf w s q n m wa wc la lc) (hk : ∀ k ∈ s'.foot, w.heap.size ≤ k) (f : Fr [] w w') : Rf w' s' q n m wa wc la lc := by
  have key : ∀ g, g < w.heap.size → g ∉ s'.foot := fun g h1 h2 => by have := hk g h2; omega
  refine ⟨h.at_.fr f (by simp), key q h.at_.lt, own_fr0 h.ow f, own_fr0 h.ol f, fun g hg => key g ?_, fun g hg => key g ?_⟩
  · obtain ⟨_, _, ha⟩ := own_atR h.ow g hg; exact ha.lt
  · obtain ⟨_, _, ha⟩ := own_atR h.ol g hg; exact ha.lt
/-- Stored anew. -/
theorem Rf.store {wa' la' : Option Addr} {wc' lc' : Nat} (h : Rf w s q n m wa wc la lc) (f : Fr [q] w w')
    (ha : At w' q 65 (ryc (16 * n : Nat) wa' m'.lw.length wc' la' m'.lb.length lc' m'.ep m'.un))
    (ow : w.ownsRow 0 45 2 (.slice wa' m'.lw.length wc') m'.lw.length (rgv m'.lw)) (ol : w.ownsRow 0 45 2 (.slice la' m'.lb.length lc') m'.lb.length (rgv m'.lb))
    (fw : ∀ g, (Value.slice wa' m'.lw.length wc').ownBlock = some g → g ∉ s.foot) (fl : ∀ g, (Value.slice la' m'.lb.length lc').ownBlock = some g → g ∉ s.foot) : Rf w' s q n m' wa' wc' la' lc' :=
  ⟨ha, h.nq, own_fr ow f (fun g hg => by simpa using own_ne ow h.at_ (by decide) g hg), own_fr ol f (fun g hg => by simpa using own_ne ol h.at_ (by decide) g hg), fw, fl⟩
end
theorem own_geR {w : World} {b n size : Nat} {e : TypeId} {v : Value} {xs : List Value} (h : w.ownsRow b e size v n xs) : ∀ g, v.ownBlock = some g → b ≤ g := fun g hg => by
  rcases h.2 with ⟨rfl, _⟩ | ⟨g', cap, cur, rfl, hb, _⟩
  · simp [Value.ownBlock] at hg
  · simp [Value.ownBlock] at hg; omega
/-! ### the two answer alike -/
theorem ok_frB (m : MS) (hw : Good m.n m.lw) (hb : Good m.n m.lb) (a s : Nat) : ref16.ok (16 * m.n) m.lw m.lb a s = frB m a s := by
  unfold ref16.ok frB
  by_cases hg : a % 16 = 0 ∧ s % 16 = 0 ∧ 0 < s ∧ a + s ≤ 16 * m.n
  · obtain ⟨A, hA⟩ : ∃ A, a = 16 * A := ⟨a / 16, by omega⟩
    obtain ⟨R, hR⟩ : ∃ R, s = 16 * R := ⟨s / 16, by omega⟩
    subst hA hR
    rw [ref16.mts_tch _ (fun q hq => ⟨(hw.al q hq).1, (hw.al q hq).2.1⟩) A R (by omega), ref16.mts_tch _ (fun q hq => ⟨(hb.al q hq).1, (hb.al q hq).2.1⟩) A R (by omega), Nat.mul_div_cancel_left _ (by omega), Nat.mul_div_cancel_left _ (by omega)]
  · rw [decide_eq_false hg, Bool.false_and, Bool.false_and]
theorem mts_or {x y : Bool} (h : (x || y) = false) : x = false := by cases x <;> simp_all
theorem ok_parts {b : Nat} {lw lb : List (Nat × Nat)} {a s : Nat} (h : ref16.ok b lw lb a s = true) : (a % 16 = 0 ∧ s % 16 = 0 ∧ 0 < s ∧ a + s ≤ b) ∧ (ref16.mts lw (a, s) || ref16.mts lb (a, s)) = false := by
  unfold ref16.ok at h
  rw [Bool.and_eq_true, decide_eq_true_eq, Bool.not_eq_true'] at h
  exact h
theorem put_wth (m : MS) (hw : Good m.n m.lw) (a s : Nat) (h : ref16.ok (16 * m.n) m.lw m.lb a s = true) : ref16.wth m.lw (a, s) = put m.lw (a, s) := by
  obtain ⟨h1, h2⟩ := ok_parts h
  exact ref16.wth_put _ _ (ref16.mts_ne (mts_or h2) h1.2.2.1 (fun q hq => (hw.al q hq).2.2.1))
theorem yw_good {w0 w : World} {y : Nat} {m : MS} {s : YS} (h : Yw w0 w y m s) : Good m.n m.lw ∧ Good m.n m.lb ∧ m.n ≤ 16384 ∧ (m.un = true → 1 ≤ m.ep) ∧ m.ep ≤ 1000000 ∧ m.lw.length ≤ 16384 ∧ m.lb.length ≤ 16384 := by
  obtain ⟨hyd, _, _, _, _, rfl, rfl⟩ := id h
  have h1 := hyd.wt.good.len
  have h2 := hyd.bt.good.len
  have h3 := hyd.wt.pt.2.2.2.2
  exact ⟨hyd.wt.good, hyd.bt.good, h3, hyd.up, hyd.few, Nat.le_trans h1 h3, Nat.le_trans h2 h3⟩
theorem good_bd {n : Nat} {l : List (Nat × Nat)} (h : Good n l) (hn : n ≤ 16384) : ∀ q ∈ l, q.1 < 4294967296 ∧ q.2 < 4294967296 := fun q hq => by
  have := h.al q hq; omega
end Go.Proofs.YthjbnbimfpbccaaGreatDoor
/-
  What the reference's functions of a yard answer, by what m says. Condition: a million sweeps at most.
-/



set_option linter.unusedVariables false
namespace Go.Proofs.YthjbnbimfpbccaaGreatDoor
open Go.ChangeShapes Go.WideShapes Go.ChangeAt Go.RowKit
/-- The two lists, apart from what the yard s may change. -/
structure Rl (w : World) (s : YS) (m : MS) (wa : Option Addr) (wc : Nat) (la : Option Addr) (lc : Nat) : Prop where
  ow : w.ownsRow 0 45 2 (.slice wa m.lw.length wc) m.lw.length (rgv m.lw)
  ol : w.ownsRow 0 45 2 (.slice la m.lb.length lc) m.lb.length (rgv m.lb)
  fw : ∀ g, (Value.slice wa m.lw.length wc).ownBlock = some g → g ∉ s.foot
  fl : ∀ g, (Value.slice la m.lb.length lc).ownBlock = some g → g ∉ s.foot
section
variable {w w' : World} {q n : Nat} {m m' : MS} {s : YS} {cs : Array Value} {wa la wa' la' : Option Addr} {wc lc wc' lc' : Nat}
theorem Rf.rl (h : Rf w s q n m wa wc la lc) : Rl w s m wa wc la lc := ⟨h.ow, h.ol, h.fw, h.fl⟩
theorem Rl.fr (h : Rl w s m wa wc la lc) (f : Fr [] w w') : Rl w' s m wa wc la lc := ⟨own_fr0 h.ow f, own_fr0 h.ol f, h.fw, h.fl⟩
theorem Rf.put (h : Rf w s q n m wa wc la lc) (f : Fr [q] w w') (ha : At w' q 65 (ryc (16 * n : Nat) wa' m'.lw.length wc' la' m'.lb.length lc' m'.ep m'.un)) (hl : Rl w s m' wa' wc' la' lc') : Rf w' s q n m' wa' wc' la' lc' := h.store f ha hl.ow hl.ol hl.fw hl.fl
theorem ryc_size (b : Int) (wn ln ep : Nat) (un : Bool) : (ryc b wa wn wc la ln lc ep un).size = 5 := rfl
theorem ryc_one (b : Int) (wn ln ep : Nat) (un : Bool) : (ryc b wa wn wc la ln lc ep un).all (·.oneCell') = true := by simp [ryc, Value.oneCell']
end
section
variable (w : World) (n : Nat) (m : MS) (s : YS) (wa la : Option Addr) (wc lc : Nat) (hl : Rl w s m wa wc la lc) (hs : ∀ k ∈ s.foot, k < w.heap.size) (hn : n ≤ 16384)
include hl hs hn
theorem rfree_m (hmn : m.n = n) (hw : Good m.n m.lw) (hb : Good m.n m.lb) (a r : Nat) (ha : a < 4294967296) (hr : r < 4294967296) :
    Calls Tryz.prog 29 #[.agg (ryc (16 * n : Nat) wa m.lw.length wc la m.lb.length lc m.ep m.un), .agg #[.int .u32 a, .int .u32 r]] w fun e w' => ∃ wa' wc' la' lc', e = .returned (.tuple #[.agg (ryc (16 * n : Nat) wa' (mFree m a r).lw.length wc' la' (mFree m a r).lb.length lc' (mFree m a r).ep (mFree m a r).un), .bool (frB m a r)]) ∧ Rl w' s (mFree m a r) wa' wc' la' lc' ∧ Fr [] w w' := by
  subst hmn
  have hgw := good_bd hw hn
  have hgb := good_bd hb hn
  have hlw := Nat.le_trans hw.len hn
  have hlb := Nat.le_trans hb.len hn
  have hok := ok_frB m hw hb a r
  unfold mFree
  by_cases hB : frB m a r = true
  · rw [if_pos hB, hB]
    rw [hB] at hok
    obtain ⟨⟨h1, h2, h3, h4⟩, h5⟩ := ok_parts hok
    refine (rfree_yes w (16 * m.n) wa wc la lc m.ep m.un (by omega) a r ha hr m.lw m.lb 0 0 hl.ow hl.ol hgw hgb (by omega) (by omega) h1 h2 h3 h4 h5).mono ?_
    rintro e w' ⟨wa', wc', rfl, ho, hf⟩
    have hlen : (put m.lw (a, r)).length = m.lw.length + 1 := by rw [← put_wth m hw a r hok, ref16.wth_len]
    dsimp only
    rw [hlen]
    rw [put_wth m hw a r hok] at ho
    refine ⟨wa', wc', la, lc, rfl, ⟨?_, own_fr0 hl.ol hf, fun g hg hk => ?_, hl.fl⟩, hf⟩
    · dsimp only
      rw [hlen]
      exact own_base ho (Nat.zero_le _)
    · dsimp only at hg
      rw [hlen] at hg
      have h1 := own_geR ho g hg
      have h2 := hs g hk
      omega
  · rw [if_neg hB]
    rw [Bool.not_eq_true] at hB
    rw [hB] at hok ⊢
    have key : Calls Tryz.prog 29 #[.agg (ryc (16 * m.n : Nat) wa m.lw.length wc la m.lb.length lc m.ep m.un), .agg #[.int .u32 a, .int .u32 r]] w fun e w' => e = .returned (.tuple #[.agg (ryc (16 * m.n : Nat) wa m.lw.length wc la m.lb.length lc m.ep m.un), .bool false]) ∧ Fr [] w w' := by
      by_cases hg : a % 16 = 0 ∧ r % 16 = 0 ∧ 0 < r ∧ a + r ≤ 16 * m.n
      · obtain ⟨h1, h2, h3, h4⟩ := id hg
        refine rfree_hit w (16 * m.n) wa wc la lc m.ep m.un (by omega) a r ha hr m.lw m.lb 0 0 hl.ow hl.ol hgw hgb (by omega) (by omega) h1 h2 h3 h4 ?_
        unfold ref16.ok at hok
        rw [decide_eq_true hg, Bool.true_and] at hok
        revert hok
        cases ref16.mts m.lw (a, r) <;> cases ref16.mts m.lb (a, r) <;> simp
      · exact rfree_bad w (16 * m.n) wa m.lw.length wc la m.lb.length lc m.ep m.un (by omega) a r ha hr hg
    exact key.mono fun e w' ⟨h1, h2⟩ => ⟨wa, wc, la, lc, h1, hl.fr h2, h2⟩
omit hs hn in
theorem rbegin_m (he : m.ep < 1000000) :
    Calls Tryz.prog 78 #[.agg (ryc (16 * n : Nat) wa m.lw.length wc la m.lb.length lc m.ep m.un)] w fun e w' => ∃ wa' wc' la' lc', e = .returned (.tuple #[.agg (ryc (16 * n : Nat) wa' (mBegin m).lw.length wc' la' (mBegin m).lb.length lc' (mBegin m).ep (mBegin m).un), .int .u64 (if m.un = true then 0 else m.ep + 1 : Nat), .bool (!m.un)]) ∧ Rl w' s (mBegin m) wa' wc' la' lc' ∧ Fr [] w w' := by
  obtain ⟨N, ep, un, lw, lb⟩ := m
  dsimp only at *
  cases un
  · refine (rbegin_yes w _ wa lw.length wc la lb.length lc ep (by omega)).mono ?_
    rintro e w' ⟨rfl, hf⟩
    exact ⟨none, 0, wa, wc, rfl, ⟨World.ownsRow_nil _ _ _ _, own_fr0 hl.ow hf, (fun g hg => by simp [Value.ownBlock] at hg), hl.fw⟩, hf⟩
  · refine (rbegin_no w _ wa lw.length wc la lb.length lc ep).mono ?_
    rintro e w' ⟨rfl, hf⟩
    exact ⟨wa, wc, la, lc, rfl, hl.fr hf, hf⟩
omit hs hn in
theorem rend_m :
    Calls Tryz.prog 85 #[.agg (ryc (16 * n : Nat) wa m.lw.length wc la m.lb.length lc m.ep m.un)] w fun e w' => ∃ wa' wc' la' lc' v, e = .returned (.tuple #[.agg (ryc (16 * n : Nat) wa' (mEnd m).lw.length wc' la' (mEnd m).lb.length lc' (mEnd m).ep (mEnd m).un), v]) ∧ w'.ownsRow 0 45 2 v (if m.un = true then m.lb else []).length (rgv (if m.un = true then m.lb else [])) ∧ Rl w' s (mEnd m) wa' wc' la' lc' ∧ Fr [] w w' := by
  obtain ⟨N, ep, un, lw, lb⟩ := m
  dsimp only at *
  cases un
  · refine (rendw_no w _ wa lw.length wc la lb.length lc ep).mono ?_
    rintro e w' ⟨rfl, hf⟩
    exact ⟨wa, wc, la, lc, _, rfl, World.ownsRow_nil _ _ _ _, hl.fr hf, hf⟩
  · refine (rendw_yes w _ wa lw.length wc la lb.length lc ep).mono ?_
    rintro e w' ⟨rfl, hf⟩
    exact ⟨wa, wc, none, 0, _, rfl, own_fr0 hl.ol hf, ⟨own_fr0 hl.ow hf, World.ownsRow_nil _ _ _ _, hl.fw, (fun g hg => by simp [Value.ownBlock] at hg)⟩, hf⟩
end
end Go.Proofs.YthjbnbimfpbccaaGreatDoor
/-
  What the reference of layer 18 computes: a number and a list of truths. Condition: at most 1024 pages.
-/

set_option linter.unusedVariables false
namespace Go.Proofs.YthjbnbimfpbccaaGreatDoor
open Go.ChangeShapes Go.WideShapes Go.ChangeAt Go.RowKit
theorem bls_new (n : Nat) : bls n (fun _ => false) = List.replicate n (.bool false) := by
  unfold bls; rw [List.map_const', List.length_range]
theorem Bs.new (w : World) (n : Nat) (hn : n ≤ 1024) : Bs w.heap.size (w.alloc (.cells (madeCells #[.bool false] n) 4)) (.slice (some ⟨w.heap.size, 0, none⟩) n n) n (fun _ => false) := by
  refine ⟨by rw [bls_len]; omega, .inr ⟨w.heap.size, n, _, rfl, Nat.le_refl _, At.new _ _ _, Nat.le_refl _, by unfold maxLen; omega, ?_, ?_⟩⟩
  · rw [made_rep]; simp
  · rw [made_rep, bls_new]; simp
def G2 (e : Int) (v : Value) : Value := .agg #[.int .u64 e, v]
theorem r18new_no (n : Int) (w : World) (hn : n < 0 ∨ 1024 < n) :
    Calls Tryz.prog 71 #[.int .i64 n] w fun r w' => r = .returned (.tuple #[.agg #[.int .u64 0, .slice none 0 0], .bool false]) ∧ Fr [] w w' := by
  rcases hn with h | h
  · go_enter Tryz.func71, Tryz.ntmps71
    go_wp2
    exact bodyPost_ret (v := .tuple #[.agg #[.int .u64 0, .slice none 0 0], .bool false]) (by simp [results, Tryz.results71, go_sem]) rfl ⟨rfl, (by repeat (first | exact Fr.refl _ _ | assumption | refine Fr.trans0 ?_ (by assumption) | refine Fr.drewN ?_ _ | refine Fr.alloc ?_ _ | refine Fr.drew ?_))⟩
  · have h2 : 0 ≤ n := by omega
    go_enter Tryz.func71, Tryz.ntmps71
    go_wp2
    exact bodyPost_ret (v := .tuple #[.agg #[.int .u64 0, .slice none 0 0], .bool false]) (by simp [results, Tryz.results71, go_sem]) rfl ⟨rfl, (by repeat (first | exact Fr.refl _ _ | assumption | refine Fr.trans0 ?_ (by assumption) | refine Fr.drewN ?_ _ | refine Fr.alloc ?_ _ | refine Fr.drew ?_))⟩
theorem r18new_yes (n : Nat) (w : World) (hn : n ≤ 1024) :
    Calls Tryz.prog 71 #[.int .i64 n] w fun r w' => ∃ v, r = .returned (.tuple #[.agg #[.int .u64 0, v], .bool true]) ∧ Bs w.heap.size w' v n (fun _ => false) ∧ Fr [] w w' := by
  have hmk := run_make_row' (P := Tryz.prog) 68 4 (.bool false) 1 Tryz.underlying68 infoB rfl .i64 .i64 n (by omega) (by omega)
  have hB := Bs.new (w.alloc (.cells #[.int .u64 0, .slice (some ⟨w.heap.size + 1, 0, none⟩) n n] 70)) n hn
  rw [World.size_alloc] at hB
  have HB := Lib.hid (own_base hB (Nat.le_succ w.heap.size))
  clear hB
  go_enter Tryz.func71, Tryz.ntmps71
  go_wp2
  exact bodyPost_ret (v := .tuple #[.agg #[.int .u64 0, .slice (some ⟨w.heap.size + 1, 0, none⟩) n n], .bool true]) (by simp [results, Tryz.results71, go_sem]) rfl ⟨_, rfl, HB.out, (by repeat (first | exact Fr.refl _ _ | assumption | refine Fr.trans0 ?_ (by assumption) | refine Fr.drewN ?_ _ | refine Fr.alloc ?_ _ | refine Fr.drew ?_))⟩
theorem r18left_any (w : World) (b : Nat) (ep : Int) (v : Value) (n : Nat) (f : Nat → Bool) (h : Bs b w v n f) (hn : n ≤ 1024) :
    Calls Tryz.prog 36 #[.agg #[.int .u64 ep, v]] w fun r w' => r = .returned (.int .i64 (cnt f n)) ∧ Fr [] w w' := by
  obtain ⟨av, cv, rfl, hcv⟩ := own_slice h
  have hop := Lib.hid fun (hn : 0 < n) => own_open h hn
  have hA := At.new w 70 #[.int .u64 ep, .slice av n cv]
  have c0 := hA.cell 1
  simp only [List.getElem?_toArray, List.getElem?_cons_zero, List.getElem?_cons_succ] at c0
  have hfa : Fr [] w (w.alloc (.cells #[.int .u64 ep, .slice av n cv] 70)) := (by repeat (first | exact Fr.refl _ _ | assumption | refine Fr.trans0 ?_ (by assumption) | refine Fr.drewN ?_ _ | refine Fr.alloc ?_ _ | refine Fr.drew ?_))
  have HF := Lib.hid hfa
  clear hfa h hA
  go_enter Tryz.func36, Tryz.ntmps36
  go_wp2
  go_loop [3, 4] (fun c i => ∃ t : Nat, t ≤ n ∧ i = .int .i64 t ∧ c = .int .i64 (cnt f t)) (fun _ i => n - (intOf i).toNat)
  case atStart => exact ⟨0, by omega, rfl, rfl⟩
  case round =>
    obtain ⟨t, ht, rfl, rfl⟩ := hrel
    have hcl := cnt_le f t
    by_cases htn : t < n
    · obtain ⟨g, c, hv, _, _, hgw, hcell, _⟩ := hop.out (by omega)
      injection hv with hv1 hv2 hv3
      subst hv1 hv3
      have hct := (HF.out.cell (a := ⟨g, t, none⟩) hgw (by simp)).trans ((hcell t htn).trans (bls_get n f t htn))
      clear hcell
      cases hft : f t
      · rw [hft] at hct
        have Hn := Lib.hid (show cnt f (t + 1) = cnt f t by simp [cnt, hft])
        clear hft
        go_wp2
        go_round
        case rel => exact ⟨t + 1, by omega, by go_num, by rw [Hn.out]⟩
        case measure => simp [intOf]; omega
      · rw [hft] at hct
        have Hn := Lib.hid (show cnt f (t + 1) = cnt f t + 1 by simp [cnt, hft])
        clear hft
        go_wp2
        go_round
        case rel => exact ⟨t + 1, by omega, by go_num, by rw [Hn.out]; go_num⟩
        case measure => simp [intOf]; omega
    · obtain rfl : t = n := by omega
      go_wp2
      go_ret
      exact ⟨rfl, HF.out⟩
theorem told_zero {f : Nat → Bool} {t : Nat} (h : told f t = []) (hf : f t = true) : told f (t + 1) = [t] := by rw [told_succ, if_pos hf, h]; rfl
theorem r18next_any (w : World) (b : Nat) (ep : Int) (v : Value) (n : Nat) (f : Nat → Bool) (h : Bs b w v n f) (hn : n ≤ 1024) :
    Calls Tryz.prog 84 #[.agg #[.int .u64 ep, v]] w fun r w' => r = .returned (.tuple #[.int .i64 (nxtP f n), .bool (nxtB f n)]) ∧ Fr [] w w' := by
  obtain ⟨av, cv, rfl, hcv⟩ := own_slice h
  have hop := Lib.hid fun (hn : 0 < n) => own_open h hn
  have hA := At.new w 70 #[.int .u64 ep, .slice av n cv]
  have c0 := hA.cell 1
  simp only [List.getElem?_toArray, List.getElem?_cons_zero, List.getElem?_cons_succ] at c0
  have hfa : Fr [] w (w.alloc (.cells #[.int .u64 ep, .slice av n cv] 70)) := (by repeat (first | exact Fr.refl _ _ | assumption | refine Fr.trans0 ?_ (by assumption) | refine Fr.drewN ?_ _ | refine Fr.alloc ?_ _ | refine Fr.drew ?_))
  have HF := Lib.hid hfa
  clear hfa h hA
  go_enter Tryz.func84, Tryz.ntmps84
  go_wp2
  go_loop [4] (fun i => ∃ t : Nat, t ≤ n ∧ i = .int .i64 t ∧ told f t = []) (fun i => n - (intOf i).toNat)
  case atStart => exact ⟨0, by omega, rfl, rfl⟩
  case round =>
    obtain ⟨t, ht, rfl, h0⟩ := hrel
    by_cases htn : t < n
    · obtain ⟨g, c, hv, _, _, hgw, hcell, _⟩ := hop.out (by omega)
      injection hv with hv1 hv2 hv3
      subst hv1 hv3
      have hct := (HF.out.cell (a := ⟨g, t, none⟩) hgw (by simp)).trans ((hcell t htn).trans (bls_get n f t htn))
      clear hcell
      cases hft : f t
      · rw [hft] at hct
        have Hn := Lib.hid (show told f (t + 1) = [] by rw [told_succ, if_neg (by simp [hft])]; exact h0)
        clear hft h0
        go_wp2
        go_round
        case rel => exact ⟨t + 1, by omega, by go_num, Hn.out⟩
        case measure => simp [intOf]; omega
      · rw [hft] at hct
        have Hn := Lib.hid (nxt_one (told_zero h0 hft ▸ told_prefix f (t + 1) n (by omega)))
        clear hft h0
        go_wp2
        go_ret2
        exact ⟨by rw [Hn.out.1, Hn.out.2]; rfl, HF.out⟩
    · obtain rfl : t = n := by omega
      have Hn := Lib.hid (nxt_nil h0)
      clear h0
      go_wp2
      go_ret2
      exact ⟨by rw [Hn.out.1, Hn.out.2]; rfl, HF.out⟩
theorem r18old_any (w : World) (b : Nat) (ep : Int) (v : Value) (n : Nat) (f : Nat → Bool) (h : Bs b w v n f) (hn : n ≤ 1024) (i : Int) :
    Calls Tryz.prog 80 #[.agg #[.int .u64 ep, v], .int .i64 i] w fun r w' => r = .returned (.bool (inR i n && f i.toNat)) ∧ Fr [] w w' := by
  obtain ⟨av, cv, rfl, hcv⟩ := own_slice h
  have hA := At.new w 70 #[.int .u64 ep, .slice av n cv]
  have c0 := hA.cell 1
  simp only [List.getElem?_toArray, List.getElem?_cons_zero, List.getElem?_cons_succ] at c0
  have hfa : Fr [] w (w.alloc (.cells #[.int .u64 ep, .slice av n cv] 70)) := (by repeat (first | exact Fr.refl _ _ | assumption | refine Fr.trans0 ?_ (by assumption) | refine Fr.drewN ?_ _ | refine Fr.alloc ?_ _ | refine Fr.drew ?_))
  by_cases h1 : 0 ≤ i
  · obtain ⟨j, rfl⟩ := Int.eq_ofNat_of_zero_le h1
    by_cases h2 : j < n
    · obtain ⟨g, c, hv, _, _, hgw, hcell, _⟩ := own_open h (by omega)
      injection hv with hv1 hv2 hv3
      subst hv1 hv3
      have hct := (hfa.cell (a := ⟨g, j, none⟩) hgw (by simp)).trans ((hcell j h2).trans (bls_get n f j h2))
      rw [inR_nat _ _ h2, Int.toNat_natCast, Bool.true_and]
      have HF := Lib.hid hfa
      obtain ⟨x, hx⟩ : ∃ x, f j = x := ⟨_, rfl⟩
      rw [hx] at hct ⊢
      clear hcell h hfa hx hA
      go_enter Tryz.func80, Tryz.ntmps80
      go_wp2
      go_ret
      exact ⟨rfl, HF.out⟩
    · have hr : Hid ((inR (j : Int) n && f (Int.toNat (j : Int))) = false) := Lib.hid (by unfold inR; simp; omega)
      have HF := Lib.hid hfa
      clear h hfa hA
      go_enter Tryz.func80, Tryz.ntmps80
      go_wp2
      go_ret
      exact ⟨ret_bool hr.out.symm, HF.out⟩
  · have hr : Hid ((inR i n && f i.toNat) = false) := Lib.hid (by unfold inR; simp; omega)
    have HF := Lib.hid hfa
    clear h hfa hA
    go_enter Tryz.func80, Tryz.ntmps80
    go_wp2
    go_ret
    exact ⟨ret_bool hr.out.symm, HF.out⟩
theorem r18mark_no (w : World) (b : Nat) (ep : Int) (v : Value) (n : Nat) (f : Nat → Bool) (h : Bs b w v n f) (hn : n ≤ 1024) (i : Int) (hi : (inR i n && f i.toNat) = false) :
    Calls Tryz.prog 83 #[.agg #[.int .u64 ep, v], .int .i64 i] w fun r w' => r = .returned (.tuple #[.agg #[.int .u64 ep, v], .bool false]) ∧ Fr [] w w' := by
  have C := Lib.hid fun (W : World) (hW : Fr [] w W) => r18old_any W b ep v n f (own_fr0 h hW) hn i
  rw [hi] at C
  obtain ⟨av, cv, rfl, hcv⟩ := own_slice h
  clear h hi
  go_enter Tryz.func83, Tryz.ntmps83
  go_wp2_with fail
  refine (C.out _ (by repeat (first | exact Fr.refl _ _ | assumption | refine Fr.trans0 ?_ (by assumption) | refine Fr.drewN ?_ _ | refine Fr.alloc ?_ _ | refine Fr.drew ?_))).mono ?_
  rintro e w2 ⟨rfl, hf2⟩
  have a0 := ((At.new w 70 #[.int .u64 ep, .slice av n cv]).fr (S := []) (w' := w2) (Fr.trans0 (by repeat (first | exact Fr.refl _ _ | assumption | refine Fr.trans0 ?_ (by assumption) | refine Fr.drewN ?_ _ | refine Fr.alloc ?_ _ | refine Fr.drew ?_)) hf2) (by simp))
  have a2 := ((At.new (w.alloc (.cells #[.int .u64 ep, .slice av n cv] 70)) 70 #[.int .u64 0, .slice none 0 0]).fr (S := []) (w' := w2) (Fr.trans0 (by repeat (first | exact Fr.refl _ _ | assumption | refine Fr.trans0 ?_ (by assumption) | refine Fr.drewN ?_ _ | refine Fr.alloc ?_ _ | refine Fr.drew ?_)) hf2) (by simp))
  simp only [World.size_alloc] at a2
  have c0 := a0.cell 0
  have c1 := a0.cell 1
  have f2 := a2.froz 0
  have f3 := a2.froz 1
  have c2 := a2.cell 0
  have c3 := a2.cell 1
  simp only [List.getElem?_toArray, List.getElem?_cons_zero, List.getElem?_cons_succ] at c0 c1 c2 c3
  have q := (a2.set 0 (.int .u64 ep)).set 1 (.slice av n cv)
  have q0 := q.cell 0
  have q1 := q.cell 1
  simp only [List.getElem?_toArray, List.getElem?_cons_zero, List.getElem?_cons_succ, List.setIfInBounds_toArray, List.set_cons_zero, List.set_cons_succ] at q0 q1
  go_wp2
  exact bodyPost_ret (v := .tuple #[.agg #[.int .u64 ep, .slice av n cv], .bool false]) (by simp [results, Tryz.results83, go_sem, q0, q1]) rfl ⟨rfl, Fr.set (Fr.set (Fr.trans0 (by repeat (first | exact Fr.refl _ _ | assumption | refine Fr.trans0 ?_ (by assumption) | refine Fr.drewN ?_ _ | refine Fr.alloc ?_ _ | refine Fr.drew ?_)) hf2) (.inr (by show w.heap.size ≤ w.heap.size + 1; omega)) _) (.inr (by show w.heap.size ≤ w.heap.size + 1; omega)) _⟩
set_option maxHeartbeats 1000000 in
theorem r18mark_yes (w : World) (b : Nat) (ep : Int) (v : Value) (n : Nat) (f : Nat → Bool) (h : Bs b w v n f) (hn : n ≤ 1024) (i : Nat) (hi : i < n) (hfi : f i = true) :
    Calls Tryz.prog 83 #[.agg #[.int .u64 ep, v], .int .i64 i] w fun r w' => ∃ v', r = .returned (.tuple #[.agg #[.int .u64 ep, v'], .bool true]) ∧ Bs w.heap.size w' v' n (upd f i false) ∧ Fr [] w w' := by
  obtain ⟨i0, hii, hz0, hz1, hz2⟩ := info_parts infoB
  have C := Lib.hid fun (W : World) (hW : Fr [] w W) => r18old_any W b ep v n f (own_fr0 h hW) hn i
  rw [inR_nat _ _ hi, Int.toNat_natCast, hfi] at C
  have H := Lib.hid h
  obtain ⟨g, cv, rfl, hcv, hbg, hgw, hcell, hfz⟩ := own_open h (by omega)
  clear h hcell hfz hfi
  go_enter Tryz.func83, Tryz.ntmps83
  go_wp2_with fail
  refine (C.out _ (by repeat (first | exact Fr.refl _ _ | assumption | refine Fr.trans0 ?_ (by assumption) | refine Fr.drewN ?_ _ | refine Fr.alloc ?_ _ | refine Fr.drew ?_))).mono ?_
  rintro e w2 ⟨rfl, hf2⟩
  have a0 := ((At.new w 70 #[.int .u64 ep, .slice (some ⟨g, 0, none⟩) n cv]).fr (S := []) (w' := w2) (Fr.trans0 (by repeat (first | exact Fr.refl _ _ | assumption | refine Fr.trans0 ?_ (by assumption) | refine Fr.drewN ?_ _ | refine Fr.alloc ?_ _ | refine Fr.drew ?_)) hf2) (by simp))
  have a2 := ((At.new (w.alloc (.cells #[.int .u64 ep, .slice (some ⟨g, 0, none⟩) n cv] 70)) 70 #[.int .u64 0, .slice none 0 0]).fr (S := []) (w' := w2) (Fr.trans0 (by repeat (first | exact Fr.refl _ _ | assumption | refine Fr.trans0 ?_ (by assumption) | refine Fr.drewN ?_ _ | refine Fr.alloc ?_ _ | refine Fr.drew ?_)) hf2) (by simp))
  simp only [World.size_alloc] at a2
  have hfw : Fr [] w w2 := Fr.trans0 (by repeat (first | exact Fr.refl _ _ | assumption | refine Fr.trans0 ?_ (by assumption) | refine Fr.drewN ?_ _ | refine Fr.alloc ?_ _ | refine Fr.drew ?_)) hf2
  have H2 := Lib.hid (own_fr0 H.out hfw)
  have HF := Lib.hid hfw
  have hnw := Lib.hid (H2.out.cells (g := g) rfl)
  have c0 := a0.cell 0
  have c1 := a0.cell 1
  simp only [List.getElem?_toArray, List.getElem?_cons_zero, List.getElem?_cons_succ] at c0 c1
  have A0 := Lib.hid a0
  have A2 := Lib.hid a2
  have hwz := a2.lt
  clear a0 a2 hf2 hfw C H
  go_wp2_with (at_builtin; refine wpList_append_own_at _ rfl (.tmp 12) (.tmp 14) 68 rfl w.heap.size 4 i0 (.bool false) 1 1 Tryz.underlying68 hii hz0 hz1 hz2 rfl (by omega) (.slice none 0 0) 0 [] rfl (World.ownsRow_nil _ _ _ _) ⟨g, 0, none⟩ n cv (bls n f) rfl (by simp [bls_len]) hnw.out (bls_one n f) (by unfold maxLen; omega) (by omega) (by omega) ?_; intro v1 w1 hown1 hg1 hnil1 hat1; simp only [List.nil_append, Nat.zero_add] at hown1; obtain ⟨g1, cv1, rfl, hcv1, hbg1, hgw1, hcl1, hfz1⟩ := own_open hown1 (by omega); have hfr : Fr [] w2 w1 := Fr.grown hg1; have hci := (hcl1 i (by omega)).trans (bls_get n f i hi); have hfi := hfz1 i; have c0 := (A0.out.fr hfr (by simp)).cell 0; simp only [List.getElem?_toArray, List.getElem?_cons_zero] at c0; have A0' := Lib.hid (A0.out.fr hfr (by simp)); have A2' := Lib.hid (A2.out.fr hfr (by simp)); have HF1 := Lib.hid (HF.out.trans0 hfr); have hneg : g1 ≠ w.heap.size + 1 := own_ne hown1 A2'.out (by decide) g1 rfl; have hneg0 : g1 ≠ w.heap.size := own_ne hown1 A0'.out (by decide) g1 rfl; have hB1 : Bs w.heap.size (w1.setCell ⟨g1, i, none⟩ (.bool false)) (.slice (some ⟨g1, 0, none⟩) n cv1) n (upd f i false) := (by have hq := own_set hown1 rfl i (.bool false); rw [bls_set] at hq; exact hq); have HB1 := Lib.hid hB1; have hfs : Fr [] w (w1.setCell ⟨g1, i, none⟩ (.bool false)) := HF1.out.set (.inr hbg1) _; have HF2 := Lib.hid hfs; have A2s := A2'.out.far (a := ⟨g1, i, none⟩) hneg.symm (.bool false); have A0s := A0'.out.far (a := ⟨g1, i, none⟩) hneg0.symm (.bool false); have d0 := A0s.cell 0; have e0 := A2s.cell 0; have e1 := A2s.cell 1; have g0 := A2s.froz 0; have g1' := A2s.froz 1; have q := (A2s.set 0 (.int .u64 ep)).set 1 (.slice (some ⟨g1, 0, none⟩) n cv1); have q0 := q.cell 0; have q1 := q.cell 1; simp only [List.getElem?_toArray, List.getElem?_cons_zero, List.getElem?_cons_succ, List.setIfInBounds_toArray, List.set_cons_zero, List.set_cons_succ] at q0 q1 d0 e0 e1; clear hown1 hg1 hnil1 hat1 hfr H2 hnw hcl1 hfz1 A0' A2' HF HF1 hB1 hfs A2s A0s q A0 A2)
  refine bodyPost_ret (v := .tuple #[.agg #[.int .u64 ep, .slice (some ⟨g1, 0, none⟩) n cv1], .bool true]) (by simp [results, Tryz.results83, go_sem, q0, q1]) rfl ⟨_, rfl, ?_, (HF2.out.set (.inr (by show w.heap.size ≤ w.heap.size + 1; omega)) _).set (.inr (by show w.heap.size ≤ w.heap.size + 1; omega)) _⟩
  exact own_fr HB1.out (((Fr.refl [w.heap.size + 1] _).set (.inl (by simp)) _).set (.inl (by simp)) _) (fun g' hg => by simp [Value.ownBlock] at hg ⊢; omega)
theorem r18start_no (w : World) (b : Nat) (ep : Int) (v : Value) (n : Nat) (f : Nat → Bool) (h : Bs b w v n f) (hn : n ≤ 1024) (e : Int) (he : e ≤ ep ∨ 0 < cnt f n) :
    Calls Tryz.prog 79 #[.agg #[.int .u64 ep, v], .int .u64 e] w fun r w' => r = .returned (.tuple #[.agg #[.int .u64 ep, v], .bool false]) ∧ Fr [] w w' := by
  have C := Lib.hid fun (W : World) (hW : Fr [] w W) => r18left_any W b ep v n f (own_fr0 h hW) hn
  obtain ⟨av, cv, rfl, hcv⟩ := own_slice h
  clear h
  by_cases h1 : e ≤ ep
  · clear he C
    go_enter Tryz.func79, Tryz.ntmps79
    go_wp2
    exact bodyPost_ret (v := .tuple #[.agg #[.int .u64 ep, .slice av n cv], .bool false]) (by simp [results, Tryz.results79, go_sem]) rfl ⟨rfl, (by repeat (first | exact Fr.refl _ _ | assumption | refine Fr.trans0 ?_ (by assumption) | refine Fr.drewN ?_ _ | refine Fr.alloc ?_ _ | refine Fr.drew ?_))⟩
  · have h2 : 0 < cnt f n := by omega
    clear he
    obtain ⟨c, hc⟩ : ∃ c, cnt f n = c := ⟨_, rfl⟩
    rw [hc] at C h2
    clear hc
    go_enter Tryz.func79, Tryz.ntmps79
    go_wp2_with fail
    refine (C.out _ (by repeat (first | exact Fr.refl _ _ | assumption | refine Fr.trans0 ?_ (by assumption) | refine Fr.drewN ?_ _ | refine Fr.alloc ?_ _ | refine Fr.drew ?_))).mono ?_
    rintro e w2 ⟨rfl, hf2⟩
    have a0 := ((At.new w 70 #[.int .u64 ep, .slice av n cv]).fr (S := []) (w' := w2) (Fr.trans0 (by repeat (first | exact Fr.refl _ _ | assumption | refine Fr.trans0 ?_ (by assumption) | refine Fr.drewN ?_ _ | refine Fr.alloc ?_ _ | refine Fr.drew ?_)) hf2) (by simp))
    have a2 := ((At.new (w.alloc (.cells #[.int .u64 ep, .slice av n cv] 70)) 70 #[.int .u64 0, .slice none 0 0]).fr (S := []) (w' := w2) (Fr.trans0 (by repeat (first | exact Fr.refl _ _ | assumption | refine Fr.trans0 ?_ (by assumption) | refine Fr.drewN ?_ _ | refine Fr.alloc ?_ _ | refine Fr.drew ?_)) hf2) (by simp))
    simp only [World.size_alloc] at a2
    have c0 := a0.cell 0
    have c1 := a0.cell 1
    have f2 := a2.froz 0
    have f3 := a2.froz 1
    have c2 := a2.cell 0
    have c3 := a2.cell 1
    simp only [List.getElem?_toArray, List.getElem?_cons_zero, List.getElem?_cons_succ] at c0 c1 c2 c3
    have q := (a2.set 0 (.int .u64 ep)).set 1 (.slice av n cv)
    have q0 := q.cell 0
    have q1 := q.cell 1
    simp only [List.getElem?_toArray, List.getElem?_cons_zero, List.getElem?_cons_succ, List.setIfInBounds_toArray, List.set_cons_zero, List.set_cons_succ] at q0 q1
    go_wp2
    exact bodyPost_ret (v := .tuple #[.agg #[.int .u64 ep, .slice av n cv], .bool false]) (by simp [results, Tryz.results79, go_sem, q0, q1]) rfl ⟨rfl, Fr.set (Fr.set (Fr.trans0 (by repeat (first | exact Fr.refl _ _ | assumption | refine Fr.trans0 ?_ (by assumption) | refine Fr.drewN ?_ _ | refine Fr.alloc ?_ _ | refine Fr.drew ?_)) hf2) (.inr (by show w.heap.size ≤ w.heap.size + 1; omega)) _) (.inr (by show w.heap.size ≤ w.heap.size + 1; omega)) _⟩
theorem fst_zero : (fun _ => false) = fstF 0 := funext fun i => by unfold fstF; simp
theorem fst_succ (t : Nat) : upd (fstF t) t true = fstF (t + 1) := funext fun i => by unfold upd fstF; by_cases e : i = t <;> simp [e]; omega
set_option maxHeartbeats 1000000 in
theorem r18start_yes (w : World) (b : Nat) (ep : Int) (v : Value) (n : Nat) (f : Nat → Bool) (h : Bs b w v n f) (hn : n ≤ 1024) (e : Int) (he : ep < e) (h0 : cnt f n = 0) :
    Calls Tryz.prog 79 #[.agg #[.int .u64 ep, v], .int .u64 e] w fun r w' => ∃ v', r = .returned (.tuple #[.agg #[.int .u64 e, v'], .bool true]) ∧ Bs w.heap.size w' v' n (fstF n) ∧ Fr [] w w' := by
  have hmk := run_make_row' (P := Tryz.prog) 68 4 (.bool false) 1 Tryz.underlying68 infoB rfl .i64 .i64 n (by omega) (by omega)
  have C := Lib.hid fun (W : World) (hW : Fr [] w W) => r18left_any W b ep v n f (own_fr0 h hW) hn
  rw [h0] at C
  obtain ⟨av, cv, rfl, hcv⟩ := own_slice h
  have h1 : ¬ e ≤ ep := by omega
  clear h h0 he
  go_enter Tryz.func79, Tryz.ntmps79
  go_wp2_with fail
  refine (C.out _ (by repeat (first | exact Fr.refl _ _ | assumption | refine Fr.trans0 ?_ (by assumption) | refine Fr.drewN ?_ _ | refine Fr.alloc ?_ _ | refine Fr.drew ?_))).mono ?_
  rintro e' w2 ⟨rfl, hf2⟩
  have hfw : Fr [] w w2 := Fr.trans0 (by repeat (first | exact Fr.refl _ _ | assumption | refine Fr.trans0 ?_ (by assumption) | refine Fr.drewN ?_ _ | refine Fr.alloc ?_ _ | refine Fr.drew ?_)) hf2
  have a0 := ((At.new w 70 #[.int .u64 ep, .slice av n cv]).fr (S := []) (w' := w2) (Fr.trans0 (by repeat (first | exact Fr.refl _ _ | assumption | refine Fr.trans0 ?_ (by assumption) | refine Fr.drewN ?_ _ | refine Fr.alloc ?_ _ | refine Fr.drew ?_)) hf2) (by simp))
  have a2 := ((At.new (w.alloc (.cells #[.int .u64 ep, .slice av n cv] 70)) 70 #[.int .u64 0, .slice none 0 0]).fr (S := []) (w' := w2) (Fr.trans0 (by repeat (first | exact Fr.refl _ _ | assumption | refine Fr.trans0 ?_ (by assumption) | refine Fr.drewN ?_ _ | refine Fr.alloc ?_ _ | refine Fr.drew ?_)) hf2) (by simp))
  simp only [World.size_alloc] at a2
  have c1 := a0.cell 1
  simp only [List.getElem?_toArray, List.getElem?_cons_zero, List.getElem?_cons_succ] at c1
  have hB := Bs.new w2 n hn
  rw [fst_zero] at hB
  have HB := Lib.hid hB
  have A2 := Lib.hid (a2.old (.cells (madeCells #[.bool false] n) 4))
  have HF := Lib.hid (hfw.alloc (.cells (madeCells #[.bool false] n) 4))
  have hwz := a2.lt
  have hsw := hfw.size
  clear hf2 hfw a0 a2 hB C
  go_wp2_with fail
  obtain ⟨q, hq⟩ : ∃ q, w2.heap.size = q := ⟨_, rfl⟩
  rw [hq] at HB hwz hsw ⊢
  clear hq
  go_loopw [7] (fun i wr => ∃ t : Nat, t ≤ n ∧ i = .int .i64 t ∧ At wr (w.heap.size + 1) 70 #[.int .u64 0, .slice none 0 0] ∧ wr.ownsRow q 4 1 (.slice (some ⟨q, 0, none⟩) n n) n (bls n (fstF t)) ∧ Fr [] w wr) (fun i _ => n - (intOf i).toNat)
  case atStart => exact ⟨0, by omega, rfl, A2.out, HB.out, HF.out⟩
  case round =>
    clear A2 HB HF
    obtain ⟨t, ht, rfl, hat, hown, hf⟩ := hrel
    have HA := Lib.hid hat
    have HO := Lib.hid hown
    have HF := Lib.hid hf
    by_cases htn : t < n
    · obtain ⟨g2, c2, hv2, _, _, hgw2, hcl2, hfz2⟩ := own_open hown (by omega)
      injection hv2 with hv3 _ hv4
      injection hv3 with hv5
      injection hv5 with hv6
      subst hv6 hv4
      have hct := (hcl2 t htn).trans (bls_get n _ t htn)
      have hfz := hfz2 t
      clear hat hown hf hcl2 hfz2
      go_wp2
      go_roundw
      case rel =>
        refine ⟨t + 1, by omega, by go_num, HA.out.far (show w.heap.size + 1 ≠ q by omega) _, ?_, HF.out.set (.inr (by show w.heap.size ≤ q; omega)) _⟩
        have := own_set HO.out rfl t (.bool true)
        rw [bls_set, fst_succ] at this
        exact this
      case measure => simp [intOf]; omega
    · obtain rfl : t = n := by omega
      have f2 := hat.froz 0
      have f3 := hat.froz 1
      have c2 := hat.cell 0
      have c3 := hat.cell 1
      simp only [List.getElem?_toArray, List.getElem?_cons_zero, List.getElem?_cons_succ] at c2 c3
      have q' := (hat.set 0 (.int .u64 e)).set 1 (.slice (some ⟨q, 0, none⟩) t t)
      have q0 := q'.cell 0
      have q1 := q'.cell 1
      simp only [List.getElem?_toArray, List.getElem?_cons_zero, List.getElem?_cons_succ, List.setIfInBounds_toArray, List.set_cons_zero, List.set_cons_succ] at q0 q1
      clear hat hown hf q'
      go_wp2
      refine bodyPost_ret (v := .tuple #[.agg #[.int .u64 e, .slice (some ⟨q, 0, none⟩) t t], .bool true]) (by simp [results, Tryz.results79, go_sem, q0, q1]) rfl ⟨_, rfl, ?_, (HF.out.set (.inr (by show w.heap.size ≤ w.heap.size + 1; omega)) _).set (.inr (by show w.heap.size ≤ w.heap.size + 1; omega)) _⟩
      exact own_base (own_fr HO.out (((Fr.refl [w.heap.size + 1] _).set (.inl (by simp)) _).set (.inl (by simp)) _) (fun g' hg => by simp [Value.ownBlock] at hg ⊢; omega)) hsw
end Go.Proofs.YthjbnbimfpbccaaGreatDoor
/-
  The reference's sweeper: ten cells, of which five are its yard and two its book; loads and stores of its parts. No condition.
-/








set_option linter.unusedVariables false
namespace Go.Proofs.YthjbnbimfpbccaaGreatDoor
open Go.ChangeShapes Go.WideShapes Go.ChangeAt Go.RowKit
def sw3 (r : Nat) (yc bk : List Value) (st vis : Nat) : List Value := .pointer (some ⟨r, 0, none⟩) :: (yc ++ (bk ++ [.int .i64 (st : Int), .int .u64 (vis : Int)]))
structure S3 (yc bk : List Value) : Prop where
  yl : yc.length = 5
  bl : bk.length = 2
  yo : ∀ v ∈ yc, v.oneCell' = true
  bo : ∀ v ∈ bk, v.oneCell' = true
section
variable {r : Nat} {yc yc' bk bk' : List Value} {st vis st' vis' : Nat} (h : S3 yc bk)
include h
theorem sw3_len : (sw3 r yc bk st vis).length = 10 := by unfold sw3; simp [h.yl, h.bl]
theorem sw3_size : (sw3 r yc bk st vis).toArray.size = 10 := by rw [List.size_toArray]; exact sw3_len h
theorem sw3_one : (sw3 r yc bk st vis).toArray.all (·.oneCell') = true := by
  rw [Array.all_eq_true_iff_forall_mem]
  intro v hv
  unfold sw3 at hv
  simp only [List.mem_toArray, List.mem_cons, List.mem_append, List.not_mem_nil, or_false] at hv
  rcases hv with rfl | hv | hv | rfl | rfl
  · rfl
  · exact h.yo v hv
  · exact h.bo v hv
  · rfl
  · rfl
omit h in
theorem sw3_y (j : Nat) (v : Value) (hv : yc[j]? = some v) : (sw3 r yc bk st vis)[1 + j]? = some v := by
  have hj := (List.getElem?_eq_some_iff.1 hv).1
  unfold sw3
  rw [Nat.add_comm, List.getElem?_cons_succ, List.getElem?_append_left hj]
  exact hv
theorem sw3_b (j : Nat) (v : Value) (hv : bk[j]? = some v) : (sw3 r yc bk st vis)[6 + j]? = some v := by
  have hj := (List.getElem?_eq_some_iff.1 hv).1
  unfold sw3
  rw [show 6 + j = (5 + j) + 1 by omega, List.getElem?_cons_succ, List.getElem?_append_right (by rw [h.yl]; omega), h.yl, Nat.add_sub_cancel_left, List.getElem?_append_left hj]
  exact hv
theorem sw3_st : (sw3 r yc bk st vis)[8]? = some (.int .i64 (st : Int)) := by
  unfold sw3
  rw [List.getElem?_cons_succ, List.getElem?_append_right (by rw [h.yl]; omega), h.yl, List.getElem?_append_right (by rw [h.bl]; omega), h.bl]
  rfl
theorem sw3_vis : (sw3 r yc bk st vis)[9]? = some (.int .u64 (vis : Int)) := by
  unfold sw3
  rw [List.getElem?_cons_succ, List.getElem?_append_right (by rw [h.yl]; omega), h.yl, List.getElem?_append_right (by rw [h.bl]; omega), h.bl]
  rfl
theorem sw3_ast : (sw3 r yc bk st vis).toArray[8]? = some (.int .i64 (st : Int)) := by rw [List.getElem?_toArray]; exact sw3_st h
theorem sw3_avis : (sw3 r yc bk st vis).toArray[9]? = some (.int .u64 (vis : Int)) := by rw [List.getElem?_toArray]; exact sw3_vis h
omit h in
theorem sw3_ar : (sw3 r yc bk st vis).toArray[0]? = some (.pointer (some ⟨r, 0, none⟩)) := by rw [List.getElem?_toArray]; rfl
theorem sw3_puty (h' : S3 yc' bk) : (sw3 r yc bk st vis).take 1 ++ yc' ++ (sw3 r yc bk st vis).drop (1 + yc'.length) = sw3 r yc' bk st vis := by
  unfold sw3
  rw [h'.yl, List.take_succ_cons, List.take_zero, show 1 + 5 = 5 + 1 from rfl, List.drop_succ_cons, List.drop_append_of_le_length (by rw [h.yl]; omega), List.drop_of_length_le (by rw [h.yl]; omega), List.nil_append]
  rfl
theorem sw3_putb (h' : S3 yc bk') : (sw3 r yc bk st vis).take 6 ++ bk' ++ (sw3 r yc bk st vis).drop (6 + bk'.length) = sw3 r yc bk' st vis := by
  unfold sw3
  rw [h'.bl, show 6 + 2 = 7 + 1 from rfl, List.drop_succ_cons, show 6 = 5 + 1 from rfl, List.take_succ_cons, List.take_append_of_le_length (by rw [h.yl]; omega), List.take_of_length_le (by rw [h.yl]; omega), List.drop_append, List.drop_of_length_le (by rw [h.yl]; omega), List.nil_append, h.yl, List.drop_append_of_le_length (by rw [h.bl]; omega), List.drop_of_length_le (by rw [h.bl]; omega), List.nil_append]
  simp
theorem sw3_setst : (sw3 r yc bk st vis).toArray.setIfInBounds 8 (.int .i64 (st' : Int)) = (sw3 r yc bk st' vis).toArray := by
  unfold sw3
  rw [List.setIfInBounds_toArray, List.set_cons_succ, List.set_append_right _ _ (by rw [h.yl]; omega), h.yl, List.set_append_right _ _ (by rw [h.bl]; omega), h.bl]
  rfl
theorem sw3_setvis : (sw3 r yc bk st vis).toArray.setIfInBounds 9 (.int .u64 (vis' : Int)) = (sw3 r yc bk st vis').toArray := by
  unfold sw3
  rw [List.setIfInBounds_toArray, List.set_cons_succ, List.set_append_right _ _ (by rw [h.yl]; omega), h.yl, List.set_append_right _ _ (by rw [h.bl]; omega), h.bl]
  rfl
end
theorem infoSw {l : List Value} (h : l.length = 10) : (Tryz.prog.info? 72).map (·.size) = some l.toArray.size := by rw [List.size_toArray, h]; kernel_rfl
theorem infoY5 {l : List Value} (h : l.length = 5) : (Tryz.prog.info? 65).map (·.size) = some l.length := by rw [h]; kernel_rfl
theorem infoG2 {l : List Value} (h : l.length = 2) : (Tryz.prog.info? 70).map (·.size) = some l.length := by rw [h]; kernel_rfl
def zsw : List Value := [.pointer none, .int .i64 0, .slice none 0 0, .slice none 0 0, .int .u64 0, .bool false, .int .u64 0, .slice none 0 0, .int .i64 0, .int .u64 0]
section
variable {ops : Array Oper} {rest : List Oper} {o : Oper} {a : Act} {w : World} {Q : Exit → Act → World → Prop} {r : Nat} {yc yc' bk bk' : List Value} {st vis : Nat} (h : S3 yc bk)
include h
theorem wpList_load_sw (hgd : Region.wanted o (yielded ops a.tmps) = true) (x : Operand) (ho : o.op = .load 72 x) (g : Nat) (hx : a.eval x = .pointer (some ⟨g, 0, none⟩)) (hg : At w g 72 (sw3 r yc bk st vis).toArray)
    (hK : wpList Tryz.prog ops Q rest (a.put o.dst (.agg (sw3 r yc bk st vis).toArray)) w) : wpList Tryz.prog ops Q (o :: rest) a w :=
  wpList_load_all hgd 72 x ho g hx 72 _ _ hg Tryz.underlying72 rfl (infoSw (sw3_len h)) hK
theorem wpList_store_sw (hgd : o.guard = none) (x y : Operand) (ho : o.op = .store 72 x y) (g : Nat) (hx : a.eval x = .pointer (some ⟨g, 0, none⟩)) (hy : a.eval y = .agg (sw3 r yc bk st vis).toArray) (cur : Array Value) (hg : At w g 72 cur) (hc : cur.size = 10)
    (hK : ∀ w', At w' g 72 (sw3 r yc bk st vis).toArray → Fr [g] w w' → wpList Tryz.prog ops Q rest (a.put o.dst undef) w') : wpList Tryz.prog ops Q (o :: rest) a w :=
  wpList_store_all hgd 72 x y ho g _ hx hy 72 cur hg (infoSw (sw3_len h)) (by rw [hc, sw3_size h]) (sw3_one h) hK
theorem wpList_load_y (hgd : Region.wanted o (yielded ops a.tmps) = true) (x : Operand) (ho : o.op = .load 65 x) (g : Nat) (hx : a.eval x = .pointer (some ⟨g, 1, none⟩)) (hg : At w g 72 (sw3 r yc bk st vis).toArray)
    (hK : wpList Tryz.prog ops Q rest (a.put o.dst (.agg yc.toArray)) w) : wpList Tryz.prog ops Q (o :: rest) a w :=
  wpList_load_at hgd 65 x ho ⟨g, 1, none⟩ hx yc _ (fun j v hv => by rw [Go.WideShapes.add_plain, hg.cell, List.getElem?_toArray]; exact sw3_y j v hv) Tryz.underlying65 rfl (infoY5 h.yl) hK
theorem wpList_load_b (hgd : Region.wanted o (yielded ops a.tmps) = true) (x : Operand) (ho : o.op = .load 70 x) (g : Nat) (hx : a.eval x = .pointer (some ⟨g, 6, none⟩)) (hg : At w g 72 (sw3 r yc bk st vis).toArray)
    (hK : wpList Tryz.prog ops Q rest (a.put o.dst (.agg bk.toArray)) w) : wpList Tryz.prog ops Q (o :: rest) a w :=
  wpList_load_at hgd 70 x ho ⟨g, 6, none⟩ hx bk _ (fun j v hv => by rw [Go.WideShapes.add_plain, hg.cell, List.getElem?_toArray]; exact sw3_b h j v hv) Tryz.underlying70 rfl (infoG2 h.bl) hK
theorem wpList_store_y (hgd : Region.wanted o (yielded ops a.tmps) = true) (x z : Operand) (ho : o.op = .store 65 x z) (g : Nat) (h' : S3 yc' bk) (hx : a.eval x = .pointer (some ⟨g, 1, none⟩)) (hy : a.eval z = .agg yc'.toArray) (hg : At w g 72 (sw3 r yc bk st vis).toArray)
    (hK : ∀ w', At w' g 72 (sw3 r yc' bk st vis).toArray → Fr [g] w w' → wpList Tryz.prog ops Q rest (a.put o.dst undef) w') : wpList Tryz.prog ops Q (o :: rest) a w :=
  wpList_store_at hgd 65 x z ho g 1 yc' hx hy 72 _ hg (infoY5 h'.yl) (by rw [sw3_len h, h'.yl]; omega) h'.yo (fun w' h1 h2 => hK w' (by rw [← sw3_puty h h']; exact h1) h2)
theorem wpList_store_b (hgd : Region.wanted o (yielded ops a.tmps) = true) (x z : Operand) (ho : o.op = .store 70 x z) (g : Nat) (h' : S3 yc bk') (hx : a.eval x = .pointer (some ⟨g, 6, none⟩)) (hy : a.eval z = .agg bk'.toArray) (hg : At w g 72 (sw3 r yc bk st vis).toArray)
    (hK : ∀ w', At w' g 72 (sw3 r yc bk' st vis).toArray → Fr [g] w w' → wpList Tryz.prog ops Q rest (a.put o.dst undef) w') : wpList Tryz.prog ops Q (o :: rest) a w :=
  wpList_store_at hgd 70 x z ho g 6 bk' hx hy 72 _ hg (infoG2 h'.bl) (by rw [sw3_len h, h'.bl]; omega) h'.bo (fun w' h1 h2 => hK w' (by rw [← sw3_putb h h']; exact h1) h2)
end
theorem res_row_tmp2 {P : Program} {fn : Func} {p x y : Tmp} {ty : TypeId} (h : fn.results = #[.cell p ty, .tmp x, .tmp y]) (tmps : Array Value) (w : World) (g : Nat) (t : TypeId) (cs : Array Value) (d : TypeDesc)
    (hp : tmps.getD p undef = .pointer (some ⟨g, 0, none⟩)) (hg : At w g t cs)
    (hu : P.underlying ty = some d) (hd : (match d with | .struct _ | .array _ _ => true | _ => false) = true) (hi : (P.info? ty).map (·.size) = some cs.size) :
    (results fn tmps).run P w = .ok (.tuple #[.agg cs, tmps.getD x undef, tmps.getD y undef]) w := by
  have hp' : tmps[p]?.getD undef = .pointer (some ⟨g, 0, none⟩) := by simpa using hp
  simp [results, h, hp', asAddr, run_loadVar_row w g t ty cs (0, 0) d hg hu hd hi]
section
variable (w : World) (r : Nat) (yc bk : List Value) (st vis : Nat) (h : S3 yc bk)
include h
set_option maxRecDepth 100000 in
theorem r19go_yes (h1 : st = 1) : Calls Tryz.prog 31 #[.agg (sw3 r yc bk st vis).toArray] w fun e w' => e = .returned (.tuple #[.agg (sw3 r yc bk 2 vis).toArray, .bool true]) ∧ Fr [] w w' := by
  have A1 := Lib.hid (At.old (At.new w 72 (sw3 r yc bk st vis).toArray) (.cells zsw.toArray 72))
  have Z1 := Lib.hid (show At ((w.alloc (.cells (sw3 r yc bk st vis).toArray 72)).alloc (.cells zsw.toArray 72)) (w.heap.size + 1) 72 zsw.toArray from At.nw (by simp only [World.size_alloc]))
  have F1 := Lib.hid (show Fr [] w ((w.alloc (.cells (sw3 r yc bk st vis).toArray 72)).alloc (.cells zsw.toArray 72)) from (by repeat (first | exact Fr.refl _ _ | assumption | refine Fr.trans0 ?_ (by assumption) | refine Fr.drewN ?_ _ | refine Fr.alloc ?_ _ | refine Fr.drew ?_)))
  obtain ⟨w1, hw1⟩ : ∃ W, (w.alloc (.cells (sw3 r yc bk st vis).toArray 72)).alloc (.cells zsw.toArray 72) = W := ⟨_, rfl⟩
  obtain ⟨q, hq⟩ : ∃ q, w.heap.size = q := ⟨_, rfl⟩
  have HW := Lib.hid hw1
  have HQ := Lib.hid hq
  rw [hw1] at A1 Z1 F1
  rw [hq] at A1 Z1
  unfold zsw at HW
  clear hw1 hq
  subst h1
  have H3 := Lib.hid h
  clear h
  go_enter Tryz.func31, Tryz.ntmps31
  go_upto_region 1 with (fail)
  rw [HW.out, HQ.out]
  have c8 := (A1.out.cell 8).trans (sw3_ast H3.out)
  have z8 := A1.out.froz 8
  go_upto_region 4 with (fail)
  have f2 : Fr [q] w1 (w1.setCell ⟨q, 8, none⟩ (.int .i64 2)) := (Fr.refl _ _).set (.inl (by simp)) _
  have A2 := A1.out.set 8 (.int .i64 ((2 : Nat) : Int))
  rw [sw3_setst H3.out] at A2
  have Z2 := Lib.hid (Z1.out.fr f2 (by simp))
  obtain ⟨w2, hw2⟩ : ∃ W, w1.setCell ⟨q, 8, none⟩ (.int .i64 2) = W := ⟨_, rfl⟩
  rw [show (w1.setCell ⟨q, 8, none⟩ (.int .i64 ((2 : Nat) : Int))) = w2 from hw2] at A2
  rw [hw2] at f2 Z2 ⊢
  have A2 := Lib.hid A2
  have F2 := Lib.hid f2
  clear c8 z8 hw2 f2
  go_wp2_with (first
    | (refine wpList_load_sw H3.out (by rfl) (.tmp 1) rfl q rfl A2.out ?_)
    | (refine wpList_store_sw H3.out rfl (.tmp 2) (.tmp 9) rfl (q + 1) rfl rfl _ Z2.out rfl ?_; intro w3 h3 hf3))
  refine bodyPost_ret (res_row_tmp rfl _ _ (q + 1) 72 _ _ rfl h3 Tryz.underlying72 rfl (infoSw (sw3_len H3.out))) rfl ⟨rfl, ?_⟩
  exact ((F1.out.trans F2.out (fun k hk => .inr (by simp at hk; rw [hk, HQ.out]; exact Nat.le_refl _))).trans hf3 (fun k hk => .inr (by simp at hk; rw [hk, HQ.out]; omega)))
end
end Go.Proofs.YthjbnbimfpbccaaGreatDoor
