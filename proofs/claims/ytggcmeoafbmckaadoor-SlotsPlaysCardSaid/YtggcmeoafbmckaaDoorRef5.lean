/-
  What the reference of layer 13 computes: Take, how many are free, the pages' numbers, two lists alike. Condition: at most 1024 pages, 16 slots.
-/



import Derived.Test.YtggcmeoafbmckaaDoorRef4
import Derived.Test.YtggcmeoafbmckaaDoorPages
import Derived.Deep.RegionHeld3
set_option linter.unusedVariables false
namespace Go.Proofs.YtggcmeoafbmckaaDoor
open Go.ChangeShapes Go.WideShapes Go.ChangeAt Go.RowKit
/-- What the loops of the reference read of a page. -/
theorem page_reads {w : World} {v : Value} {P : List (Nat × Value)} {per : Nat} (F : Nat → Nat → Bool) (h : Rp 0 w v P) (hF : ∀ x ∈ P, Bs 0 w x.2 per (F x.1)) (hper : 0 < per) (j : Nat) (hj : j < P.length) :
    ∃ g cv n gu cu, v = .slice (some ⟨g, 0, none⟩) P.length cv ∧ g < w.heap.size ∧ P.length ≤ cv ∧ P[j]? = some (n, .slice (some ⟨gu, 0, none⟩) per cu) ∧ per ≤ cu ∧ w.cell? ⟨g, j * 2, none⟩ = some (.int .i64 (n : Nat)) ∧ w.cell? ⟨g, j * 2 + 1, none⟩ = some (.slice (some ⟨gu, 0, none⟩) per cu) ∧ gu < w.heap.size ∧ ∀ t, t < per → w.cell? ⟨gu, t, none⟩ = some (.bool (F n t)) := by
  obtain ⟨g, cv, rfl, hcv, _, hgw, hcell, _⟩ := own_openS h (by omega)
  obtain ⟨⟨n, u⟩, hx⟩ : ∃ x, P[j]? = some x := ⟨_, List.getElem?_eq_getElem hj⟩
  have hu := hF _ (List.mem_of_getElem? hx)
  obtain ⟨gu, cu, hu2, hcu, _, huw, hucell, _⟩ := own_open hu (by omega)
  dsimp only at hu2
  subst hu2
  exact ⟨g, cv, n, gu, cu, rfl, hgw, hcv, hx, hcu, (hcell (j * 2) (by omega)).trans (pcs_get P j _ hx).1, (hcell (j * 2 + 1) (by omega)).trans (pcs_get P j _ hx).2, huw, fun t ht => (hucell t ht).trans (bls_get per _ t ht)⟩
set_option maxHeartbeats 2000000 in
set_option maxRecDepth 100000 in
theorem r13take_no {w : World} {per : Nat} {v : Value} {P : List (Nat × Value)} (F : Nat → Nat → Bool) (h : Rp 0 w v P) (hP : P.length ≤ 1024) (hF : ∀ x ∈ P, Bs 0 w x.2 per (F x.1)) (hper : 0 < per) (hper2 : per ≤ 16) (hz : ∀ x ∈ P, ∀ t, F x.1 t = false) :
    Calls Tryd.prog 18 #[.agg #[.int .i64 per, v]] w fun r w' => r = .returned (.tuple #[.agg #[.int .i64 per, v], .int .i64 0, .int .i64 0, .bool false]) ∧ Fr [] w w' := by
  have HR := Lib.hid (page_reads F h hF hper)
  have HZ := Lib.hid hz
  obtain ⟨av, cv, rfl, hcv⟩ := own_slice h
  obtain ⟨L, hL⟩ : ∃ L, P.length = L := ⟨_, rfl⟩
  rw [hL] at HR hcv hP ⊢
  have F0 : Fr [] w ((w.alloc (.cells #[.int .i64 per, .slice av L cv] 43)).alloc (.cells #[.int .i64 0, .slice none 0 0] 43)) := (by repeat (first | exact Fr.refl _ _ | assumption | refine Fr.trans0 ?_ (by assumption) | refine Fr.drewN ?_ _ | refine Fr.alloc ?_ _ | refine Fr.drew ?_))
  have HF0 := Lib.hid F0
  clear h hL hz hF F0
  go_enter Tryd.func18, Tryd.ntmps18
  go_wp2
  go_loopw [6, 7] (fun i s wr => ∃ k : Nat, k ≤ L ∧ i = .int .i64 k ∧ wr = (w.alloc (.cells #[.int .i64 per, .slice av L cv] 43)).alloc (.cells #[.int .i64 0, .slice none 0 0] 43)) (fun i _ _ => L - (intOf i).toNat)
  case atStart => exact ⟨0, by omega, rfl, by trivial⟩
  case round =>
    obtain ⟨k, hk, rfl, rfl⟩ := hrel
    by_cases hlt : k < L
    · obtain ⟨g, cw, n, gu, cu, hv, hgw, hcw, hx, hcu, k0, k1, huw, hut⟩ := HR.out k hlt
      injection hv with hv1 hv2 hv3
      subst hv1 hv3
      have k0 := (HF0.out.cell (a := ⟨g, k * 2, none⟩) hgw (by simp)).trans k0
      have k1 := (HF0.out.cell (a := ⟨g, k * 2 + 1, none⟩) hgw (by simp)).trans k1
      have HU := Lib.hid fun t (ht : t < per) => (HF0.out.cell (a := ⟨gu, t, none⟩) huw (by simp)).trans (hut t ht)
      have HN := Lib.hid (HZ.out _ (List.mem_of_getElem? hx))
      clear hut hx
      go_wp2
      go_loopw [7] (fun s wi => ∃ t : Nat, t ≤ per ∧ s = .int .i64 t ∧ wi = (w.alloc (.cells #[.int .i64 per, .slice (some ⟨g, 0, none⟩) L cv] 43)).alloc (.cells #[.int .i64 0, .slice none 0 0] 43)) (fun s _ => per - (intOf s).toNat)
      case atStart => exact ⟨0, by omega, rfl, by trivial⟩
      case round =>
        obtain ⟨t, ht, rfl, rfl⟩ := hrel
        by_cases htl : t < per
        · have ut := HU.out t htl
          have HNt := HN.out t
          try dsimp only at HNt
          rw [HNt] at ut
          clear HNt
          go_wp2
          go_roundw
          case rel => exact ⟨t + 1, by omega, by go_num, by trivial⟩
          case measure => simp [intOf]; omega
        · obtain rfl : t = per := by omega
          go_wp2
          go_roundw
          case rel => exact ⟨k + 1, by omega, by go_num, by trivial⟩
          case measure => simp [intOf]; omega
    · obtain rfl : k = L := by omega
      go_wp2
      exact bodyPost_ret (v := .tuple #[.agg #[.int .i64 per, .slice av k cv], .int .i64 0, .int .i64 0, .bool false]) (by simp [results, Tryd.results18, go_sem]) rfl ⟨rfl, (by repeat (first | exact Fr.refl _ _ | assumption | refine Fr.trans0 ?_ (by assumption) | refine Fr.drewN ?_ _ | refine Fr.alloc ?_ _ | refine Fr.drew ?_))⟩
set_option maxHeartbeats 4000000 in
set_option maxRecDepth 100000 in
theorem r13take_yes {w : World} {per : Nat} {v : Value} {P : List (Nat × Value)} (F : Nat → Nat → Bool) (h : Rp 0 w v P) (hS : ∀ x ∈ P, SlV x.2) (hP : P.length ≤ 1024) (hF : ∀ x ∈ P, Bs 0 w x.2 per (F x.1)) (hper : 0 < per) (hper2 : per ≤ 16) (k0 n0 : Nat) (u0 : Value) (s : Nat) (hs : s < per)
    (hx0 : P[k0]? = some (n0, u0)) (h0 : F n0 s = true) (hlow : ∀ t, t < s → F n0 t = false) (hz : ∀ j x, j < k0 → P[j]? = some x → ∀ t, F x.1 t = false) :
    Calls Tryd.prog 18 #[.agg #[.int .i64 per, v]] w fun r w' => ∃ v' u', r = .returned (.tuple #[.agg #[.int .i64 per, v'], .int .i64 n0, .int .i64 s, .bool true]) ∧ Rp 0 w' v' (P.set k0 (n0, u')) ∧ Bs 0 w' u' per (upd (F n0) s false) ∧ Fr [] w w' := by
  have HR := Lib.hid (page_reads F h hF hper)
  have HZ := Lib.hid hz
  have HX0 := Lib.hid hx0
  have H0 := Lib.hid h0
  have HLow := Lib.hid hlow
  have CW := Lib.hid fun (W : World) (hW : Fr [] w W) => r13with_any (per := per) (own_fr0 h hW) hS hP k0 n0 u0 (F n0) hx0 (own_fr0 (hF _ (List.mem_of_getElem? hx0)) hW) hper2 s hs false
  have hk0 := (List.getElem?_eq_some_iff.1 hx0).1
  obtain ⟨av, cv, rfl, hcv⟩ := own_slice h
  obtain ⟨L, hL⟩ : ∃ L, P.length = L := ⟨_, rfl⟩
  rw [hL] at HR hcv hP CW hk0 ⊢
  have F0 : Fr [] w ((w.alloc (.cells #[.int .i64 per, .slice av L cv] 43)).alloc (.cells #[.int .i64 0, .slice none 0 0] 43)) := (by repeat (first | exact Fr.refl _ _ | assumption | refine Fr.trans0 ?_ (by assumption) | refine Fr.drewN ?_ _ | refine Fr.alloc ?_ _ | refine Fr.drew ?_))
  have HF0 := Lib.hid F0
  clear h hL hz hF F0 hx0 h0 hlow
  go_enter Tryd.func18, Tryd.ntmps18
  go_wp2
  go_loopw [6, 7] (fun i s wr => ∃ k : Nat, k ≤ k0 ∧ i = .int .i64 k ∧ wr = (w.alloc (.cells #[.int .i64 per, .slice av L cv] 43)).alloc (.cells #[.int .i64 0, .slice none 0 0] 43)) (fun i _ _ => L - (intOf i).toNat)
  case atStart => exact ⟨0, by omega, rfl, by trivial⟩
  case round =>
    obtain ⟨k, hk, rfl, rfl⟩ := hrel
    obtain ⟨g, cw, n, gu, cu, hv, hgw, hcw, hx, hcu, c0, c1, huw, hut⟩ := HR.out k (by omega)
    injection hv with hv1 hv2 hv3
    subst hv1 hv3
    have k0' := (HF0.out.cell (a := ⟨g, k * 2, none⟩) hgw (by simp)).trans c0
    have k1 := (HF0.out.cell (a := ⟨g, k * 2 + 1, none⟩) hgw (by simp)).trans c1
    have HU := Lib.hid fun t (ht : t < per) => (HF0.out.cell (a := ⟨gu, t, none⟩) huw (by simp)).trans (hut t ht)
    clear hut c0 c1
    have hkL : k < L := by omega
    by_cases hlt : k < k0
    · have HN := Lib.hid (HZ.out k _ hlt hx)
      clear hx
      go_wp2
      go_loopw [7] (fun s wi => ∃ t : Nat, t ≤ per ∧ s = .int .i64 t ∧ wi = (w.alloc (.cells #[.int .i64 per, .slice (some ⟨g, 0, none⟩) L cv] 43)).alloc (.cells #[.int .i64 0, .slice none 0 0] 43)) (fun s _ => per - (intOf s).toNat)
      case atStart => exact ⟨0, by omega, rfl, by trivial⟩
      case round =>
        obtain ⟨t, ht, rfl, rfl⟩ := hrel
        by_cases htl : t < per
        · have ut := HU.out t htl
          have HNt := HN.out t
          try dsimp only at HNt
          rw [HNt] at ut
          clear HNt
          go_wp2
          go_roundw
          case rel => exact ⟨t + 1, by omega, by go_num, by trivial⟩
          case measure => simp [intOf]; omega
        · obtain rfl : t = per := by omega
          go_wp2
          go_roundw
          case rel => exact ⟨k + 1, by omega, by go_num, by trivial⟩
          case measure => simp [intOf]; omega
    · obtain rfl : k = k0 := by omega
      rw [HX0.out] at hx
      injection hx with hx
      injection hx with hx1 hx2
      subst hx1 hx2
      clear hlt hk
      go_wp2
      go_loopw [7] (fun z wi => ∃ t : Nat, t ≤ s ∧ z = .int .i64 t ∧ wi = (w.alloc (.cells #[.int .i64 per, .slice (some ⟨g, 0, none⟩) L cv] 43)).alloc (.cells #[.int .i64 0, .slice none 0 0] 43)) (fun z _ => per - (intOf z).toNat)
      case atStart => exact ⟨0, by omega, rfl, by trivial⟩
      case round =>
        obtain ⟨t, ht, rfl, rfl⟩ := hrel
        have htp : t < per := by omega
        have ut := HU.out t htp
        by_cases htl : t < s
        · have HNt := HLow.out t htl
          rw [HNt] at ut
          clear HNt
          go_wp2
          go_roundw
          case rel => exact ⟨t + 1, by omega, by go_num, by trivial⟩
          case measure => simp [intOf]; omega
        · obtain rfl : t = s := by omega
          rw [H0.out] at ut
          clear htl ht
          go_wp2
          obtain ⟨wo, hwo⟩ : ∃ wo, (w.alloc (.cells #[.int .i64 per, .slice (some ⟨g, 0, none⟩) L cv] 43)).alloc (.cells #[.int .i64 0, .slice none 0 0] 43) = wo := ⟨_, rfl⟩
          have a0 := (At.new w 43 #[.int .i64 per, .slice (some ⟨g, 0, none⟩) L cv]).old (.cells #[.int .i64 0, .slice none 0 0] 43)
          have a1 := At.new (w.alloc (.cells #[.int .i64 per, .slice (some ⟨g, 0, none⟩) L cv] 43)) 43 #[.int .i64 0, .slice none 0 0]
          simp only [World.size_alloc] at a1
          rw [hwo] at a0 a1 HF0 k0' ⊢
          have A0 := Lib.hid a0
          have A1 := Lib.hid a1
          have b0 := a0.cell 0
          have b1 := a0.cell 1
          have d0 := a1.cell 0
          have d1 := a1.cell 1
          have e0 := a1.froz 0
          have e1 := a1.froz 1
          simp only [List.getElem?_toArray, List.getElem?_cons_zero, List.getElem?_cons_succ] at b0 b1 d0 d1
          clear ut k1 HU a0 a1 hwo
          go_region_held3 (fun w' => w'.cell? ⟨w.heap.size, 0, none⟩ = some (.int .i64 per) ∧ w'.cell? ⟨w.heap.size, 1, none⟩ = some (.slice (some ⟨g, 0, none⟩) L cv) ∧ w'.cell? ⟨g, k * 2, none⟩ = some (.int .i64 n0)) (first | exact ⟨b0, b1, k0'⟩ | exact dd | exact dd2 | go_keep) ((go_at_call 38; refine (CW.out _ (HF0.out.trans0 (by repeat (first | exact Fr.refl _ _ | assumption | refine Fr.trans0 ?_ (by assumption) | refine Fr.drewN ?_ _ | refine Fr.alloc ?_ _ | refine Fr.drew ?_)))).mono ?_; rintro e w5 ⟨v', u', rfl, h5, hu5, hf5⟩; obtain ⟨av5, cv5, rfl, hcv5⟩ := own_slice h5; have A5 := Lib.hid (A1.out.frh hf5 rfl (by simp)); have d0 := A5.out.cell 0; have d1 := A5.out.cell 1; have e0 := A5.out.froz 0; have e1 := A5.out.froz 1; simp only [List.getElem?_toArray, List.getElem?_cons_zero, List.getElem?_cons_succ] at d0 d1; have keep : ∀ (a : Addr) (v : Value), wo.cell? a = some v → w5.cell? a = some v := fun a v hv => (hf5.cell (a := a) (by exact lt_of_cell hv) (by simp)).trans hv; have dd := And.intro (keep _ _ b0) (And.intro (keep _ _ b1) (keep _ _ k0')); have hq : Fr [w.heap.size + 1] w5 ((w5.setCell ⟨w.heap.size + 1, 0, none⟩ (.int .i64 per)).setCell ⟨w.heap.size + 1, 1, none⟩ (.slice av5 P.length cv5)) := ((Fr.refl _ _).set (.inl (by simp)) _).set (.inl (by simp)) _; have keep2 : ∀ (a : Addr) (v : Value), w5.cell? a = some v → a.block ∉ [w.heap.size + 1] → _ = some v := fun a v hv hn => (hq.cell (a := a) (by exact lt_of_cell hv) hn).trans hv; have dd2 := And.intro (keep2 _ _ (keep _ _ b0) (by simp)) (And.intro (keep2 _ _ (keep _ _ b1) (by simp)) (keep2 _ _ (keep _ _ k0') (by simp; omega)))))
          all_goals
            have q := (A5.out.set 0 (.int .i64 per)).set 1 (.slice av5 P.length cv5)
            have q0 := q.cell 0
            have q1 := q.cell 1
            simp only [List.getElem?_toArray, List.getElem?_cons_zero, List.getElem?_cons_succ, List.setIfInBounds_toArray, List.set_cons_zero, List.set_cons_succ] at q0 q1
            have HQ := Lib.hid hq
            have H5 := Lib.hid h5
            have HU5 := Lib.hid hu5
            have HF5 := Lib.hid (HF0.out.trans0 (w'' := w5) (hf5.hd rfl rfl rfl rfl))
            clear hq h5 hu5 q dd dd2
            go_wp2
            refine bodyPost_ret (v := .tuple #[.agg #[.int .i64 per, .slice av5 P.length cv5], .int .i64 n0, .int .i64 t, .bool true]) (by simp [results, Tryd.results18, go_sem, q0, q1]) rfl ⟨_, u', rfl, ?_, ?_, ?_⟩
            · have hr := own_fr H5.out HQ.out (fun g hg hm => by simp at hm; exact own_ne H5.out A5.out (by decide) g hg hm)
              rw [List.length_set] at hr
              unfold Rp
              rw [List.length_set]
              exact hr
            · exact own_fr HU5.out HQ.out (fun g hg hm => by simp at hm; exact own_ne HU5.out A5.out (by decide) g hg hm)
            · exact HF5.out.trans HQ.out (by simp)
/-! ### how many are free; the numbers; alike? -/
theorem r13free_any {w : World} {per : Nat} {v : Value} {P : List (Nat × Value)} (F : Nat → Nat → Bool) (h : Rp 0 w v P) (hP : P.length ≤ 1024) (hF : ∀ x ∈ P, Bs 0 w x.2 per (F x.1)) (hper : 0 < per) (hper2 : per ≤ 16) :
    Calls Tryd.prog 22 #[.agg #[.int .i64 per, v]] w fun r w' => r = .returned (.int .i64 (sumF F per (P.map (·.1)) : Nat)) ∧ Fr [] w w' := by
  have HR := Lib.hid (page_reads F h hF hper)
  have CF := Lib.hid fun (W : World) (hW : Fr [] w W) (j n : Nat) (u : Value) (hx : P[j]? = some (n, u)) => r13fr_any (n := n) (own_fr0 (hF _ (List.mem_of_getElem? hx)) hW) hper2
  obtain ⟨av, cv, rfl, hcv⟩ := own_slice h
  obtain ⟨L, hL⟩ : ∃ L, P.length = L := ⟨_, rfl⟩
  have HL := Lib.hid hL
  rw [hL] at HR hcv hP ⊢
  have F0 : Fr [] w (w.alloc (.cells #[.int .i64 per, .slice av L cv] 43)) := (by repeat (first | exact Fr.refl _ _ | assumption | refine Fr.trans0 ?_ (by assumption) | refine Fr.drewN ?_ _ | refine Fr.alloc ?_ _ | refine Fr.drew ?_))
  have HF0 := Lib.hid F0
  have A0 := Lib.hid (At.new w 43 #[.int .i64 per, .slice av L cv])
  have HT := Lib.hid fun j n (hx : (P.map (·.1))[j]? = some n) => sumF_take F per (P.map (·.1)) j n hx
  have HB := Lib.hid fun j => sumF_le F per hper2 ((P.map (·.1)).take j)
  clear h hL hF F0
  go_enter Tryd.func22, Tryd.ntmps22
  go_wp2
  go_loopw [3, 4] (fun c i wr => ∃ k : Nat, k ≤ L ∧ i = .int .i64 k ∧ c = .int .i64 (sumF F per ((P.map (·.1)).take k) : Nat) ∧ Fr [] (w.alloc (.cells #[.int .i64 per, .slice av L cv] 43)) wr) (fun _ i _ => L - (intOf i).toNat)
  case atStart => exact ⟨0, by omega, rfl, rfl, Fr.refl _ _⟩
  case round =>
    obtain ⟨k, hk, rfl, rfl, hf⟩ := hrel
    have c1 := (A0.out.fr hf (by simp)).cell 1
    simp only [List.getElem?_toArray, List.getElem?_cons_zero, List.getElem?_cons_succ] at c1
    have hb := HB.out k
    rw [List.length_take, List.length_map, HL.out, Nat.min_eq_left hk] at hb
    by_cases hlt : k < L
    · obtain ⟨g, cw, n, gu, cu, hv, hgw, hcw, hx, hcu, k0, k1, huw, hut⟩ := HR.out k hlt
      injection hv with hv1 hv2 hv3
      subst hv1 hv3
      have k0 := ((HF0.out.trans0 hf).cell (a := ⟨g, k * 2, none⟩) hgw (by simp)).trans k0
      have k1 := ((HF0.out.trans0 hf).cell (a := ⟨g, k * 2 + 1, none⟩) hgw (by simp)).trans k1
      have HTk := Lib.hid (HT.out k n (by rw [List.getElem?_map, hx]; rfl))
      have C := Lib.hid (CF.out wr (HF0.out.trans0 hf) k n _ hx)
      have hcn := cnt_le (F n) per
      obtain ⟨S, hS⟩ : ∃ S, sumF F per ((P.map (·.1)).take k) = S := ⟨_, rfl⟩
      obtain ⟨S2, hS2⟩ : ∃ S, sumF F per ((P.map (·.1)).take (k + 1)) = S := ⟨_, rfl⟩
      obtain ⟨cc, hcc⟩ : ∃ c, cnt (F n) per = c := ⟨_, rfl⟩
      rw [hS, hS2, hcc] at HTk
      rw [hS] at hb ⊢
      rw [hcc] at C hcn
      have HS2 := Lib.hid hS2
      have HF := Lib.hid hf
      clear hut hx hS hS2 hcc hf
      go_wp2_with fail
      refine (C.out).mono ?_
      rintro e w5 ⟨rfl, hf5⟩
      have HF5 := Lib.hid (HF.out.trans0 hf5)
      clear hf5 C
      go_wp2
      go_roundw
      case rel => exact ⟨k + 1, by omega, by go_num, by rw [HS2.out, HTk.out]; go_num, HF5.out⟩
      case measure => simp [intOf]; omega
    · obtain rfl : k = L := by omega
      have HE := Lib.hid (show (P.map (·.1)).take k = P.map (·.1) by rw [List.take_of_length_le (by rw [List.length_map, HL.out]; omega)])
      go_wp2
      go_ret
      exact ⟨by rw [HE.out]; rfl, HF0.out.trans0 hf⟩
end Go.Proofs.YtggcmeoafbmckaaDoor
