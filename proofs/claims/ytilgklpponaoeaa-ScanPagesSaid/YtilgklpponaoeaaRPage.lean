/-
  The reference's look at a page: which tags it takes, and how many. Condition: the paint's truths lie apart from the tags; whole pages.
-/







import Derived.Test.YtilgklpponaoeaaPage
import Derived.Test.YtilgklpponaoeaaRTagged
import Derived.Test.YtilgklpponaoeaaRefC
set_option linter.unusedVariables false
namespace Go.Proofs.Ytilgklpponaoeaa
open Go.ChangeShapes Go.WideShapes Go.ChangeAt Go.RowKit
set_option maxHeartbeats 2000000 in
set_option maxRecDepth 100000 in
theorem r17page_any (w : World) (r bb tb cb ct : Nat) (bs : List Nat) (f : Nat → Bool) (h : Ra w r bb tb cb ct bs f) (hN : bs.length % 256 = 0) (v : Value) (m : Nat) (fp : Nat → Bool) (hb : Bs 0 w v m fp) (hm : m ≤ 16384) (hvt : ∀ g, v.ownBlock = some g → g ≠ tb) (page : Int) :
    Calls Try.prog 20 #[.pointer (some ⟨r, 0, none⟩), .int .i64 page, .agg #[v]] w fun e w' => e = .returned (.int .i64 (pgN bs (hasP m fp) (tgP bs.length f page) : Nat)) ∧ Ra w' r bb tb cb ct bs (pgT bs (hasP m fp) f (tgP bs.length f page)) ∧ Fr [tb] w w' := by
  have HBS := Lib.hid hb
  have HVT := Lib.hid hvt
  obtain ⟨av, cv, rfl, -⟩ := own_slice hb
  have A0 := Lib.hid (At.new w 53 #[.slice av m cv])
  have F0 := Lib.hid (show Fr [] w (w.alloc (.cells #[.slice av m cv] 53)) from (by repeat (first | exact Fr.refl _ _ | assumption | refine Fr.trans0 ?_ (by assumption) | refine Fr.drewN ?_ _ | refine Fr.alloc ?_ _ | refine Fr.drew ?_)))
  have R0 := Lib.hid (h.fr0 F0.out)
  obtain ⟨w1, hw1⟩ : ∃ W, w.alloc (.cells #[.slice av m cv] 53) = W := ⟨_, rfl⟩
  rw [hw1] at A0 F0 R0
  have HW1 := Lib.hid hw1
  have CT := Lib.hid (rtagged_any w1 r bb tb cb ct bs f R0.out hN page)
  obtain ⟨hs, hhs⟩ : ∃ hs, hasP m fp = hs := ⟨_, rfl⟩
  have HHS := Lib.hid hhs
  rw [hhs]
  have hlt := tgP_len bs.length f page
  have HG := Lib.hid (tgP_grs bs.length f page)
  obtain ⟨l, hl⟩ : ∃ l, tgP bs.length f page = l := ⟨_, rfl⟩
  rw [hl] at CT hlt HG ⊢
  obtain ⟨n, hn⟩ : ∃ n, l.length = n := ⟨_, rfl⟩
  rw [hn] at CT hlt
  have HNN := Lib.hid hn
  have htl := h.lt.2.2
  have HIC := Lib.hid (fun c : Cp => (show (Try.prog.info? 38).map (·.size) = some c.cells.size from infoCapZ))
  obtain ⟨q5, hq5⟩ : ∃ q, w.heap.size = q := ⟨_, rfl⟩
  rw [hq5] at A0 htl
  have HQ5 := Lib.hid hq5
  clear hl hn h hb hhs hw1 hvt hq5
  go_enter Try.func20, Try.ntmps20
  go_wp2_with fail
  rw [HW1.out, HQ5.out]
  refine (CT.out).mono ?_
  rintro e w2 ⟨u, rfl, ho, hf2⟩
  obtain ⟨va, vc, rfl, hvc⟩ := own_slice ho
  have O2 := Lib.hid (own_base ho (Nat.zero_le _))
  have F2 := Lib.hid (F0.out.trans0 hf2)
  have A2 := Lib.hid (A0.out.fr hf2 (by simp))
  have R2 := Lib.hid (R0.out.fr0 hf2)
  clear ho hf2 CT A0 R0
  go_wp2_with fail
  go_loopw [7, 9] (fun sn i wr => ∃ k : Nat, k ≤ n ∧ i = .int .i64 k ∧ sn = .int .i64 (pgN bs hs (l.take k) : Nat) ∧ Ra wr r bb tb cb ct bs (pgT bs hs f (l.take k)) ∧ wr.ownsRow 0 35 1 (.slice va n vc) n (u32s l) ∧ At wr q5 53 #[.slice av m cv] ∧ Fr [tb] w wr) (fun _ i _ => n - (intOf i).toNat)
  case atStart => exact ⟨0, by omega, rfl, by simp [pgN], by rw [List.take_zero, pgT_nil]; exact R2.out, O2.out, A2.out, F2.out.more (by simp)⟩
  case round =>
    clear O2 F2 A2 R2
    obtain ⟨k, hk, rfl, rfl, ha, ho, hp, hf⟩ := hrel
    have HA := Lib.hid ha
    have HO := Lib.hid ho
    have HF := Lib.hid hf
    have HPB := Lib.hid hp
    have hsz := hf.size
    by_cases h1 : k < n
    · obtain ⟨a, hka⟩ : ∃ a, l[k]? = some a := ⟨_, List.getElem?_eq_getElem (by rw [HNN.out]; exact h1)⟩
      have hma := List.mem_of_getElem? hka
      have hfit := HG.out.fit a hma
      have hmod := HG.out.mod a hma
      have hbl := ha.le
      have ha32 : a < 4294967296 := by omega
      obtain ⟨gl, cl, he, -, -, hgll, hcl, -⟩ := own_open ho (by omega)
      injection he with e1 e2 e3
      subst e1 e3
      have cc := hcl k h1
      rw [u32s_get l k a hka] at cc
      have CLL := Lib.hid (fun W (hW : Fr [] wr W) => (hW.cell (a := ⟨gl, k, none⟩) hgll (by simp)).trans cc)
      have hst := HG.out.still bs hs k a hka
      have CL := Lib.hid (show Calls Try.prog 50 #[.pointer (some ⟨r, 0, none⟩), .int .u32 a] wr fun e w' => e = .returned (.tuple #[.agg (ofB (sub bs a 16) true).cells, .bool true]) ∧ Fr [] wr w' from by
        have := rloadc_any wr r bb tb cb ct bs _ ha a ha32
        unfold ldC at this
        rw [show whB bs.length a = true by unfold whB; simp; omega, if_pos rfl, hst] at this
        exact this)
      have hcur := ofB_ok (sub bs a 16) true (sub_byt bs a 16 ha.byt) (sub_len bs a 16 (by omega))
      have CU := Lib.hid fun W (hW : Fr [] wr W) => (show Calls Try.prog 47 #[.pointer (some ⟨r, 0, none⟩), .int .u32 a] W fun e w' => e = .returned (.bool true) ∧ Ra w' r bb tb cb ct bs (upd (pgT bs hs f (l.take k)) (a / 16) false) ∧ Fr [tb] W w' from by
        have := runtag_any W r bb tb cb ct bs _ (ha.fr0 hW) a ha32
        unfold unB at this
        rw [show whB bs.length a = true by unfold whB; simp; omega, hst, Bool.true_and, if_pos rfl] at this
        exact this)
      have HTK := Lib.hid (HG.out.taken bs hs k a hka)
      have HKP := Lib.hid (pgT_kept (f := f) bs hs k a hka)
      have HSN := Lib.hid (pgN_snoc bs hs k a hka)
      have hpn : pgN bs hs (l.take k) ≤ 16 := by unfold pgN; exact Nat.le_trans (List.length_filter_le _ _) (by rw [List.length_take]; omega)
      obtain ⟨N, hN⟩ : ∃ N, pgN bs hs (l.take k) = N := ⟨_, rfl⟩
      rw [hN] at hpn HSN ⊢
      have CS := Lib.hid fun W (hW : Fr [] wr W) => (show Calls Try.prog 61 #[.agg (ofB (sub bs a 16) true).cells, .agg #[.slice av m cv]] W fun e w' => e = .returned (.bool (sU bs hs a)) ∧ Fr [] W w' from by
        have := r17stale_any W 0 (.slice av m cv) m fp (own_fr HBS.out (hf.trans hW (by simp)) (fun g hg => by simpa using HVT.out g hg)) hm _ hcur
        rw [HHS.out] at this
        exact this)
      obtain ⟨T, hT⟩ : ∃ T, sU bs hs a = T := ⟨_, rfl⟩
      obtain ⟨c, hc⟩ : ∃ c, ofB (sub bs a 16) true = c := ⟨_, rfl⟩
      rw [hT] at CS HTK HKP HSN
      rw [hc] at CS CL
      have hki : (k : Int) < n := by omega
      obtain ⟨gcs, hgA, -⟩ := ha.tags
      have HNE := Lib.hid (own_ne ho hgA (by decide))
      have hqt : q5 ≠ tb := by omega
      clear hka hma hfit hmod hbl hcl hst hcur hN hT hc ha ho hf hgA hp
      cases T with
      | true =>
        go_wp2_with fail
        refine (CL.out).mono ?_
        rintro e w4 ⟨rfl, hf4⟩
        have F4 := Lib.hid (hf4.alloc (.cells noC.cells 38))
        have hs4 := hf4.size
        clear hf4
        go_upto_region 7 with (refine wpList_store_all (by rfl) 38 (.tmp 10) (.tmp 28) rfl _ c.cells rfl rfl 38 noC.cells (At.nw rfl) (HIC.out c) rfl (cellz_all c) ?_; intro w5 hA5 hF5)
        have A5 := Lib.hid hA5
        have F5 := Lib.hid (F4.out.trans hF5 (by simp <;> omega))
        have P5 := Lib.hid (HPB.out.fr F5.out (by simp))
        have pc := P5.out.cell 0
        simp only [List.getElem?_toArray, List.getElem?_cons_zero] at pc
        clear hA5 hF5 F4
        go_wp2_with (refine wpList_load_all (by rfl) 38 (.tmp 10) rfl _ rfl 38 c.cells _ A5.out Try.underlying38 rfl (HIC.out c) ?_)
        refine (CS.out _ F5.out).mono ?_
        rintro e w6 ⟨rfl, hf6⟩
        have P6 := Lib.hid (P5.out.fr hf6 (by simp))
        have cc6 := CLL.out _ (F5.out.trans0 hf6)
        go_wp2_with fail
        refine (CU.out _ (F5.out.trans0 hf6)).mono ?_
        rintro e w7 ⟨rfl, h7, hf7⟩
        rw [HTK.out (by simp)] at h7
        have H7 := Lib.hid h7
        have F7 := Lib.hid ((HF.out.trans0 (F5.out.trans0 hf6)).trans hf7 (fun x hx => .inl hx))
        have O7 := Lib.hid (own_fr (own_fr0 HO.out (F5.out.trans0 hf6)) hf7 (fun x hx => by simpa using HNE.out x hx))
        have P7 := Lib.hid (P6.out.fr hf7 (by simpa using hqt))
        clear h7 hf7 hf6 HTK HKP
        have HSN' := Lib.hid (show pgN bs hs (l.take (k + 1)) = N + 1 from HSN.out)
        clear HSN
        go_wp2_with fail
        go_roundw
        case rel => exact ⟨k + 1, by omega, by go_num, by rw [HSN'.out]; go_num, H7.out, O7.out, P7.out, F7.out⟩
        case measure => simp [intOf]; omega
      | false =>
        go_wp2_with fail
        refine (CL.out).mono ?_
        rintro e w4 ⟨rfl, hf4⟩
        have F4 := Lib.hid (hf4.alloc (.cells noC.cells 38))
        have hs4 := hf4.size
        clear hf4
        go_upto_region 7 with (refine wpList_store_all (by rfl) 38 (.tmp 10) (.tmp 28) rfl _ c.cells rfl rfl 38 noC.cells (At.nw rfl) (HIC.out c) rfl (cellz_all c) ?_; intro w5 hA5 hF5)
        have A5 := Lib.hid hA5
        have F5 := Lib.hid (F4.out.trans hF5 (by simp <;> omega))
        have P5 := Lib.hid (HPB.out.fr F5.out (by simp))
        have pc := P5.out.cell 0
        simp only [List.getElem?_toArray, List.getElem?_cons_zero] at pc
        clear hA5 hF5 F4
        go_wp2_with (refine wpList_load_all (by rfl) 38 (.tmp 10) rfl _ rfl 38 c.cells _ A5.out Try.underlying38 rfl (HIC.out c) ?_)
        refine (CS.out _ F5.out).mono ?_
        rintro e w6 ⟨rfl, hf6⟩
        have P6 := Lib.hid (P5.out.fr hf6 (by simp))
        have H7 := Lib.hid (HA.out.fr0 (F5.out.trans0 hf6))
        rw [HKP.out (by simp)] at H7
        have F7 := Lib.hid (HF.out.trans0 (F5.out.trans0 hf6))
        have O7 := Lib.hid (own_fr0 HO.out (F5.out.trans0 hf6))
        clear hf6 HTK HKP
        have HSN' := Lib.hid (show pgN bs hs (l.take (k + 1)) = N from HSN.out)
        clear HSN
        go_wp2_with fail
        go_roundw
        case rel => exact ⟨k + 1, by omega, by go_num, by rw [HSN'.out], H7.out, O7.out, P6.out, F7.out⟩
        case measure => simp [intOf]; omega
    · obtain rfl : k = n := by omega
      go_wp2_with fail
      go_ret
      have hA := HA.out
      rw [← HNN.out, List.take_length] at hA ⊢
      exact ⟨rfl, hA, HF.out⟩
end Go.Proofs.Ytilgklpponaoeaa
