/-
  scan.Page: which tags of a page it takes, and how many. Condition: the paint's blocks are older than the arena's.
-/







import Derived.Test.YtilgklpponaoeaaPagePlain
set_option linter.unusedVariables false
namespace Go.Proofs.Ytilgklpponaoeaa
open Go.ChangeShapes Go.WideShapes Go.ChangeAt Go.RowKit
theorem u32s_get (l : List Nat) (k a : Nat) (h : l[k]? = some a) : (u32s l)[k]? = some (.int .u32 (a : Int)) := by unfold u32s; rw [List.getElem?_map, h]; rfl
theorem Ar.wordsAt {w : World} {ap p g bg cap : Nat} {bs : List Nat} {f : Nat → Bool} (h : Ar w ap p g bg cap bs f) : ∃ cs, At w g 131 cs := by
  obtain ⟨a1, a2, a3, a4, a5, a6, ⟨b1, b2, b3, c, cs', b4, b5, b6, b7⟩, _⟩ := h
  exact ⟨_, b6⟩
theorem ofB_ok (l : List Nat) (v : Bool) (hl : Byt l) (hn : l.length = 16) : (ofB l v).cur < 4294967296 := by
  exact (ofB0_ok l hl).cur
set_option maxHeartbeats 2000000 in
set_option maxRecDepth 100000 in
theorem spage_any {B : Nat} {w : World} {pv : Option Addr} {hs : Int → Bool} (ap p g bg cap : Nat) (bs : List Nat) (f : Nat → Bool) (h : Ar w ap p g bg cap bs f) (hh : Hs B w pv hs) (hB : B ≤ w.heap.size) (hBg : B ≤ g) (page : Int) :
    Calls Try.prog 19 #[.pointer (some ⟨ap, 0, none⟩), .int .i64 page, .pointer pv] w fun r w' => r = .returned (.int .i64 (pgN bs hs (tgP bs.length f page) : Nat)) ∧ Ar w' ap p g bg cap bs (pgT bs hs f (tgP bs.length f page)) ∧ Fr [g] w w' := by
  have CT := Lib.hid (atagged_any w ap p g bg cap bs f h page)
  have hlt := tgP_len bs.length f page
  have HG := Lib.hid (tgP_grs bs.length f page)
  obtain ⟨l, hl⟩ : ∃ l, tgP bs.length f page = l := ⟨_, rfl⟩
  rw [hl] at CT hlt HG ⊢
  obtain ⟨n, hn⟩ : ∃ n, l.length = n := ⟨_, rfl⟩
  rw [hn] at CT hlt
  have HN := Lib.hid hn
  have H := Lib.hid h
  have HH := Lib.hid hh
  have hgl := h.lt.2.2.1
  have HIC := Lib.hid (fun c : Cp => (show (Try.prog.info? 38).map (·.size) = some c.cells.size from infoCapZ))
  clear hl hn h hh
  go_enter Try.func19, Try.ntmps19
  go_wp2_with fail
  refine (CT.out).mono ?_
  rintro e w2 ⟨v, rfl, ho, hf2⟩
  obtain ⟨va, vc, rfl, hvc⟩ := own_slice ho
  have O2 := Lib.hid (own_base ho (Nat.zero_le _))
  have F2 := Lib.hid hf2
  clear ho hf2 CT
  go_wp2_with fail
  go_loopw [8, 20] (fun sn i wr => ∃ k : Nat, k ≤ n ∧ i = .int .i64 k ∧ sn = .int .i64 (pgN bs hs (l.take k) : Nat) ∧ Ar wr ap p g bg cap bs (pgT bs hs f (l.take k)) ∧ wr.ownsRow 0 35 1 (.slice va n vc) n (u32s l) ∧ Fr [g] w wr) (fun _ i _ => n - (intOf i).toNat)
  case atStart => exact ⟨0, by omega, rfl, by simp [pgN], by rw [List.take_zero, pgT_nil]; exact H.out.fr0 F2.out, O2.out, F2.out.more (by simp)⟩
  case round =>
    clear O2 F2
    obtain ⟨k, hk, rfl, rfl, ha, ho, hf⟩ := hrel
    have HA := Lib.hid ha
    have HO := Lib.hid ho
    have HF := Lib.hid hf
    have hsz := hf.size
    by_cases h1 : k < n
    · obtain ⟨a, hka⟩ : ∃ a, l[k]? = some a := ⟨_, List.getElem?_eq_getElem (by rw [HN.out]; exact h1)⟩
      have hma := List.mem_of_getElem? hka
      have hfit := HG.out.fit a hma
      have hmod := HG.out.mod a hma
      have hbl := ha.2.1
      have ha32 : a < 4294967296 := by omega
      obtain ⟨gl, cl, he, -, -, hgll, hcl, -⟩ := own_open ho (by omega)
      injection he with e1 e2 e3
      subst e1 e3
      have cc := hcl k h1
      rw [u32s_get l k a hka] at cc
      have hst := HG.out.still bs hs k a hka
      have CL := Lib.hid (show Calls Try.prog 30 #[.pointer (some ⟨ap, 0, none⟩), .int .u32 a] wr fun r w' => r = .returned (.tuple #[.agg (ofB (sub bs a 16) true).cells, .bool true]) ∧ Fr [] wr w' from by
        have := aloadc_b wr ap p g bg cap bs _ ha a ha32
        unfold ldC at this
        rw [show whB bs.length a = true by unfold whB; simp; omega, if_pos rfl, hst] at this
        exact this)
      have hcur := ofB_ok (sub bs a 16) true (fun x hx => ha.2.2.2.2.1 x (List.mem_of_mem_drop (List.mem_of_mem_take hx))) (by unfold sub; rw [List.length_take, List.length_drop]; omega)
      have CU := Lib.hid fun W (hW : Fr [] wr W) => (show Calls Try.prog 46 #[.pointer (some ⟨ap, 0, none⟩), .int .u32 a] W fun r w' => r = .returned (.bool true) ∧ Ar w' ap p g bg cap bs (upd (pgT bs hs f (l.take k)) (a / 16) false) ∧ Fr [g] W w' from by
        have := auntag_any W ap p g bg cap bs _ (ha.fr0 hW) a ha32
        unfold unB at this
        rw [show whB bs.length a = true by unfold whB; simp; omega, hst, Bool.true_and, if_pos rfl] at this
        exact this)
      have HTK := Lib.hid (HG.out.taken bs hs k a hka)
      have HKP := Lib.hid (pgT_kept (f := f) bs hs k a hka)
      have HSN := Lib.hid (pgN_snoc bs hs k a hka)
      have hpn : pgN bs hs (l.take k) ≤ 16 := by unfold pgN; exact Nat.le_trans (List.length_filter_le _ _) (by rw [List.length_take]; omega)
      obtain ⟨N, hN⟩ : ∃ N, pgN bs hs (l.take k) = N := ⟨_, rfl⟩
      rw [hN] at hpn HSN ⊢
      have CS := Lib.hid fun W (hW : Fr [] wr W) => (show Calls Try.prog 60 #[.agg #[.pointer pv], .agg (ofB (sub bs a 16) true).cells] W fun r w' => r = .returned (.bool (sU bs hs a)) ∧ Fr [] W w' from stale_any (HH.out.fr (hf.trans0 hW) (by simp; omega)) (by have := hW.size; omega) _ hcur)
      obtain ⟨T, hT⟩ : ∃ T, sU bs hs a = T := ⟨_, rfl⟩
      obtain ⟨c, hc⟩ : ∃ c, ofB (sub bs a 16) true = c := ⟨_, rfl⟩
      rw [hT] at CS HTK HKP HSN
      rw [hc] at CS CL
      have hki : (k : Int) < n := by omega
      have hgA := Ar.wordsAt ha
      obtain ⟨gcs, hgA⟩ := hgA
      have HNE := Lib.hid (own_ne ho hgA (by decide))
      clear hka hma hfit hmod hbl hcl hst hcur hN hT hc ha ho hf hgA
      cases T with
      | true =>
        go_wp2_with fail
        refine (CL.out).mono ?_
        rintro e w4 ⟨rfl, hf4⟩
        have F4 := Lib.hid (hf4.alloc (.cells noC.cells 38))
        have hs4 := hf4.size
        clear hf4
        go_upto_region 7 with (refine wpList_store_all rfl 38 (.tmp 11) (.tmp 28) rfl _ c.cells rfl rfl 38 noC.cells (At.nw rfl) (HIC.out c) rfl (cellz_all c) ?_; intro w5 hA5 hF5)
        have A5 := Lib.hid hA5
        have F5 := Lib.hid (F4.out.trans hF5 (by simp <;> omega))
        clear hA5 hF5 F4
        go_wp2_with (refine wpList_load_all rfl 38 (.tmp 11) rfl _ rfl 38 c.cells _ A5.out Try.underlying38 rfl (HIC.out c) ?_)
        refine (CS.out _ F5.out).mono ?_
        rintro e w6 ⟨rfl, hf6⟩
        go_wp2_with fail
        refine (CU.out _ (F5.out.trans0 hf6)).mono ?_
        rintro e w7 ⟨rfl, h7, hf7⟩
        rw [HTK.out (by simp)] at h7
        have H7 := Lib.hid h7
        have F7 := Lib.hid ((HF.out.trans0 (F5.out.trans0 hf6)).trans hf7 (fun x hx => .inl hx))
        have O7 := Lib.hid (own_fr (own_fr0 HO.out (F5.out.trans0 hf6)) hf7 (fun x hx => by simpa using HNE.out x hx))
        clear h7 hf7 hf6 HTK HKP
        have HSN' := Lib.hid (show pgN bs hs (l.take (k + 1)) = N + 1 from HSN.out)
        clear HSN
        go_wp2_with fail
        go_roundw
        case rel => exact ⟨k + 1, by omega, by go_num, by rw [HSN'.out]; go_num, H7.out, O7.out, F7.out⟩
        case measure => simp [intOf]; omega
      | false =>
        go_wp2_with fail
        refine (CL.out).mono ?_
        rintro e w4 ⟨rfl, hf4⟩
        have F4 := Lib.hid (hf4.alloc (.cells noC.cells 38))
        have hs4 := hf4.size
        clear hf4
        go_upto_region 7 with (refine wpList_store_all rfl 38 (.tmp 11) (.tmp 28) rfl _ c.cells rfl rfl 38 noC.cells (At.nw rfl) (HIC.out c) rfl (cellz_all c) ?_; intro w5 hA5 hF5)
        have A5 := Lib.hid hA5
        have F5 := Lib.hid (F4.out.trans hF5 (by simp <;> omega))
        clear hA5 hF5 F4
        go_wp2_with (refine wpList_load_all rfl 38 (.tmp 11) rfl _ rfl 38 c.cells _ A5.out Try.underlying38 rfl (HIC.out c) ?_)
        refine (CS.out _ F5.out).mono ?_
        rintro e w6 ⟨rfl, hf6⟩
        have H7 := Lib.hid (HA.out.fr0 (F5.out.trans0 hf6))
        rw [HKP.out (by simp)] at H7
        have F7 := Lib.hid (HF.out.trans0 (F5.out.trans0 hf6))
        have O7 := Lib.hid (own_fr0 HO.out (F5.out.trans0 hf6))
        clear hf6 HTK HKP
        have HSN' := Lib.hid (show pgN bs hs (l.take (k + 1)) = N from HSN.out)
        clear HSN
        go_wp2_with fail
        go_roundw
        case rel => exact ⟨k + 1, by omega, by go_num, by rw [HSN'.out], H7.out, O7.out, F7.out⟩
        case measure => simp [intOf]; omega
    · obtain rfl : k = n := by omega
      go_wp2_with fail
      go_ret
      have hA := HA.out
      rw [← HN.out, List.take_length] at hA ⊢
      exact ⟨rfl, hA, HF.out⟩
end Go.Proofs.Ytilgklpponaoeaa
