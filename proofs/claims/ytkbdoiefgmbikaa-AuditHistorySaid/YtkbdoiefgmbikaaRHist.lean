/-
  The reference's History. Condition: a thousand events at most.
-/



import Derived.Test.YtkbdoiefgmbikaaRFault
import Derived.Test.YtkbdoiefgmbikaaRCount
import Derived.Deep.CutBlock
import Derived.Deep.DeepCutAuto
import Derived.BigRegion
set_option linter.unusedVariables false
namespace Go.Proofs.Ytkbdoiefgmbikaa
open Go.ChangeShapes Go.WideShapes Go.ChangeAt Go.RowKit
theorem see_ra {ha hs : Nat} {y : Rx} {e : Ev} {i : Nat} (h : ∀ g ∈ y.gs, g.a < 4294967296 ∧ g.s < 4294967296) (h1 : e.a < 4294967296) (h2 : e.s < 4294967296) : ∀ g ∈ (seeR ha hs y e i).2.gs, g.a < 4294967296 ∧ g.s < 4294967296 := by
  have hset : ∀ k st fr, ∀ g ∈ setSt y.gs k st fr, g.a < 4294967296 ∧ g.s < 4294967296 := fun k st fr g hg => by
    unfold setSt at hg
    cases hk : y.gs[k]? with
    | none => rw [hk] at hg; exact h g hg
    | some x =>
      rw [hk] at hg
      rcases List.mem_or_eq_of_mem_set hg with hg | rfl
      · exact h g hg
      · exact h x (List.mem_of_getElem? hk)
  unfold seeR
  split
  · unfold countR
    split
    · intro g hg
      rcases List.mem_append.1 hg with hg | hg
      · exact h g hg
      · simp at hg; subst hg; exact ⟨h1, h2⟩
    · split
      · cases findR y.gs e with
        | none => exact h
        | some k => exact hset k 2 i
      · split
        · exact h
        · split
          · cases findR y.gs e with
            | none => exact h
            | some k => exact hset k 3 _
          · split
            · exact h
            · split
              · exact h
              · split
                · cases waitR y.ks e.hart with
                  | none => exact h
                  | some k => exact h
                · exact h
  · exact h
theorem hisX_ra {ha hs : Nat} : ∀ (l : List Ev) (i : Nat) (y : Rx), (∀ g ∈ y.gs, g.a < 4294967296 ∧ g.s < 4294967296) → (∀ e ∈ l, e.a < 4294967296 ∧ e.s < 4294967296) → ∀ g ∈ (hisX ha hs l i y).gs, g.a < 4294967296 ∧ g.s < 4294967296
  | [], _, _, h, _ => h
  | e :: l, i, y, h, hb => hisX_ra l (i + 1) _ (see_ra h (hb e (by simp)).1 (hb e (by simp)).2) (fun x hx => hb x (by simp [hx]))
set_option maxHeartbeats 8000000 in
set_option maxRecDepth 100000 in
theorem rhist_any (w : World) (ha hs : Nat) (h1 : ha < 4294967296) (h2 : hs < 4294967296) (a : Option Addr) (cap : Nat) (l : List Ev) (hl : EvIn w a l) (hok : ∀ e ∈ l, e.Ok) (hn : l.length ≤ 1000) :
    Calls Try.prog 22 #[.agg #[.int .u32 ha, .int .u32 hs], .slice a l.length cap] w fun r w' => ∃ v, r = .returned v ∧ w'.ownsRow w.heap.size 46 2 v (hisF ha hs l 0 rx0).length (flt (hisF ha hs l 0 rx0)) ∧ Fr [] w w' := by
  obtain ⟨i0, hi, hz0, hz1, hz2⟩ := info_parts infoFault
  have HIR := Lib.hid (show (Try.prog.info? 27).map (·.size) = some 2 by kernel_rfl)
  have HL := Lib.hid hl
  have HO := Lib.hid hok
  obtain ⟨n, hnn⟩ : ∃ n, l.length = n := ⟨_, rfl⟩
  have HN := Lib.hid hnn
  rw [hnn] at hn ⊢
  clear hl hok hnn
  obtain ⟨W0, hW0⟩ : ∃ W, ((w.alloc (.cells #[.int .u32 ha, .int .u32 hs] 27)).alloc (.cells #[.slice none 0 0, .bool false, .int .u64 0, .int .i64 0, .slice none 0 0, .slice none 0 0, .slice none 0 0] 84)) = W := ⟨_, rfl⟩
  have hF0 : Fr [] w W0 := by rw [← hW0]; exact (by repeat (first | exact Fr.refl _ _ | assumption | refine Fr.trans0 ?_ (by assumption) | refine Fr.drewN ?_ _ | refine Fr.alloc ?_ _ | refine Fr.drew ?_))
  have hA0 : At W0 w.heap.size 27 #[.int .u32 ha, .int .u32 hs] := by rw [← hW0]; exact (At.new _ _ _).old _
  have hP0 : Rst W0 (w.heap.size + 1) (w.heap.size + 1) rx0 (.slice none 0 0) (.slice none 0 0) (.slice none 0 0) (.slice none 0 0) := by
    refine ⟨?_, Nat.le_refl _, World.ownsRow_nil _ _ _ _, World.ownsRow_nil _ _ _ _, World.ownsRow_nil _ _ _ _, World.ownsRow_nil _ _ _ _, fun g hg => by simp [Value.ownBlock] at hg⟩
    have := At.new (w.alloc (.cells #[.int .u32 ha, .int .u32 hs] 27)) 84 #[.slice none 0 0, .bool false, .int .u64 0, .int .i64 0, .slice none 0 0, .slice none 0 0, .slice none 0 0]
    rw [World.size_alloc, hW0] at this
    exact this
  have P0 := Lib.hid hP0
  have A0 := Lib.hid hA0
  have F0 := Lib.hid hF0
  clear hP0 hA0 hF0
  go_enter Try.func22, Try.ntmps22
  go_wp2_with fail
  (try rw [hW0])
  clear hW0
  obtain ⟨q, hq⟩ : ∃ q, w.heap.size = q := ⟨_, rfl⟩
  rw [hq] at P0 A0 ⊢
  go_loopw [5, 7] (fun s i wr => ∃ (k : Nat) (gv ev av tv : Value), k ≤ n ∧ i = .int .i64 k ∧ wr.ownsRow (q + 1) 46 2 s (hisF ha hs (l.take k) 0 rx0).length (flt (hisF ha hs (l.take k) 0 rx0)) ∧ Rst wr (q + 1) (q + 1) (hisX ha hs (l.take k) 0 rx0) gv ev av tv ∧ At wr q 27 #[.int .u32 ha, .int .u32 hs] ∧ Fr [] w wr) (fun _ i _ => n - (intOf i).toNat)
  case atStart =>
    exact ⟨0, _, _, _, _, by omega, rfl, World.ownsRow_nil _ _ _ _, P0.out, A0.out, F0.out⟩
  case round =>
    clear P0 A0 F0
    obtain ⟨k, gv, ev, av, tv, hk, rfl, hown, hP, hA, hf⟩ := hrel
    have FR := Lib.hid hf
    have HA := Lib.hid hA
    have hsz := hf.size
    rw [hq] at hsz
    have hql := hA.lt
    clear hf hA
    by_cases hlt : k < n
    · obtain ⟨e, hek⟩ : ∃ e, l[k]? = some e := ⟨_, List.getElem?_eq_getElem (by rw [HN.out]; exact hlt)⟩
      have heo := HO.out e (List.mem_of_getElem? hek)
      rcases HL.out.fr0 FR.out with h0 | ⟨b, off, rfl, hb, hc⟩
      · rw [h0] at hek; cases hek
      have HC := Lib.hid (hc k e hek)
      have hsF := hisF_snoc ha hs e (l.take k) 0 rx0
      have hsX := hisX_snoc ha hs e (l.take k) 0 rx0
      have htk : l.take k ++ [e] = l.take (k + 1) := by rw [List.take_add_one, hek]; rfl
      have hlk : (l.take k).length = k := by rw [List.length_take]; have := HN.out; omega
      have hfl := hisF_len ha hs (l.take k) 0 rx0
      have hbd : ∀ e ∈ l.take k, e.a < 4294967296 ∧ e.s < 4294967296 := fun e he => by have := HO.out e (List.mem_of_mem_take he); exact ⟨this.1, this.2.1⟩
      have hinv := (his_eq ha hs (l.take k) 0 rx0 inv0 (by rw [toS0]; exact good0) hbd).2
      have hra := hisX_ra (ha := ha) (hs := hs) (l.take k) 0 rx0 (by simp [rx0]) hbd
      rw [htk, hlk, Nat.zero_add] at hsF hsX
      rw [hlk, Nat.zero_add] at hinv
      rw [hlk] at hfl
      obtain ⟨F, hF⟩ : ∃ F, hisF ha hs (l.take k) 0 rx0 = F := ⟨_, rfl⟩
      obtain ⟨X, hX⟩ : ∃ X, hisX ha hs (l.take k) 0 rx0 = X := ⟨_, rfl⟩
      rw [hX] at hsX hP hinv hra
      rw [hF, hX] at hsF
      rw [hF] at hfl hown
      have l1 := hinv.gl
      have l2 := hinv.kl
      have l3 := hinv.el
      have l4 := hinv.la
      have CF := Lib.hid fun W (hW : Fr [] wr W) => rfault_any W _ _ ha hs X _ _ _ _ (hP.fr0 hW) e heo h1 h2 (by omega) (by omega) (by omega) (by omega) hra
      have CC := Lib.hid fun W (hW : Fr [] wr W) (h0 : faultR ha hs X e = 0) => rcount_any W _ _ ha hs X _ _ _ _ (hP.fr0 hW) e k (by omega) (by omega) (by omega) h0
      have HPP := Lib.hid hP
      have HOW := Lib.hid hown
      obtain ⟨C, hC⟩ : ∃ C, faultR ha hs X e = C := ⟨_, rfl⟩
      rw [hC] at CF CC
      have HSF := Lib.hid hsF
      have HSX := Lib.hid hsX
      have HCC := Lib.hid hC
      have hkI : (k : Int) < (n : Int) := by omega
      clear hF hX hsF hsX htk hc hek heo hinv hra l1 l2 l3 l4 hP hown hC hbd
      unfold evl at HC
      go_upto_region 6 with (fail)
      refine wp_region_L (fun W => Fr [] wr W) [] (by kernel_rfl) (Fr.refl _ _).drew (fun hHeld => ?_)
      refine wpAnyL_take (i := 0) (v := ?_) rfl (by kernel_rfl) (fun _ _ _ h => h) (Or.inl ⟨by rfl, ?_⟩) (by assumption) ?_; rotate_left; (focus (intro w hSw; skip; go_simp; (try with_reducible rfl))); (try (refine wpAnyL_norm (by simp only [Act.put, List.setIfInBounds_toArray, List.set_cons_zero, List.set_cons_succ]; rfl) ?_))
      refine wpAnyL_take (i := 1) rfl (by kernel_rfl) (fun _ _ _ h => h) (yields_load_at 27 (.tmp 2) rfl ⟨q, 0, none⟩ rfl [.int .u32 ha, .int .u32 hs] _ (fun W hW => (HA.out.fr hW (by simp)).two 0 _ _ rfl rfl) Try.underlying27 rfl HIR.out rfl) (by assumption) ?_; (try (refine wpAnyL_norm (by simp only [Act.put, List.setIfInBounds_toArray, List.set_cons_zero, List.set_cons_succ]; rfl) ?_))
      refine wpAnyL_take (i := 2) (v := ?_) rfl (by kernel_rfl) (fun _ _ _ h => h) (Or.inl ⟨by rfl, ?_⟩) (by assumption) ?_; rotate_left; (focus (intro w hSw; skip; go_simp; (try with_reducible rfl))); (try (refine wpAnyL_norm (by simp only [Act.put, List.setIfInBounds_toArray, List.set_cons_zero, List.set_cons_succ]; rfl) ?_))
      refine wpAnyL_take (i := 3) (v := ?_) rfl (by kernel_rfl) (fun _ _ _ h => h) (Or.inl ⟨by rfl, ?_⟩) (by assumption) ?_; rotate_left; (focus (intro w hSw; skip; go_simp; (try with_reducible rfl))); (try (refine wpAnyL_norm (by simp only [Act.put, List.setIfInBounds_toArray, List.set_cons_zero, List.set_cons_succ]; rfl) ?_))
      refine wpAnyL_take (i := 4) (v := ?_) rfl (by kernel_rfl) (fun _ _ _ h => h) (Or.inl ⟨by rfl, ?_⟩) (by assumption) ?_; rotate_left; (focus (intro w hSw; skip; go_simp; (try with_reducible rfl))); (try (refine wpAnyL_norm (by simp only [Act.put, List.setIfInBounds_toArray, List.set_cons_zero, List.set_cons_succ]; rfl) ?_))
      refine wpAnyL_take (i := 5) rfl (by kernel_rfl) (fun _ _ _ h => h) (yields_load_at 41 (.tmp 21) rfl ⟨b, off + k * 6, none⟩ rfl [.int .i64 e.kind, .int .i64 e.hart, .int .u32 e.val, .int .u64 e.num, .int .u32 e.a, .int .u32 e.s] _ (fun W hW j v hv => by have := HC.out j v hv; rw [Go.WideShapes.add_plain] at this ⊢; rw [hW.cell hb (by simp)]; exact this) Try.underlying41 rfl infoEv rfl) (by assumption) ?_; (try (refine wpAnyL_norm (by simp only [Act.put, List.setIfInBounds_toArray, List.set_cons_zero, List.set_cons_succ]; rfl) ?_))
      refine wpAnyL_ready (rs := [6]) (by kernel_rfl) (by simp) ?_; refine AllReadyL.cons rfl (fun K hK => ?_) AllReadyL.nil
      go_simp
      refine (CF.out _ hHeld).mono ?_
      rintro e1 w3 ⟨rfl, hf3⟩
      refine hK.out _ _ (fun _ => hHeld.trans0 hf3) (fun hHeld' => ?_); have hHeld := hHeld' (by decide); clear hHeld' hK K; (try (refine wpAnyL_norm (by simp only [Act.put, List.setIfInBounds_toArray, List.set_cons_zero, List.set_cons_succ]; rfl) ?_))
      refine wpAnyL_take (i := 7) (v := ?_) rfl (by kernel_rfl) (fun _ _ _ h => h) (Or.inl ⟨by rfl, ?_⟩) (by assumption) ?_; rotate_left; (focus (intro w hSw; skip; go_simp; (try with_reducible rfl))); (try (refine wpAnyL_norm (by simp only [Act.put, List.setIfInBounds_toArray, List.set_cons_zero, List.set_cons_succ]; rfl) ?_))
      refine wpAnyL_done (by kernel_rfl) ?_ _
      have D3 := Lib.hid hHeld
      have F3 := Lib.hid (FR.out.trans0 hHeld)
      have HC3 := Lib.hid (fun j v hv => by have := HC.out j v hv; rw [Go.WideShapes.add_plain] at this ⊢; rw [hHeld.cell hb (by simp)]; exact this : ∀ j v, [Value.int .i64 e.kind, .int .i64 e.hart, .int .u32 e.val, .int .u64 e.num, .int .u32 e.a, .int .u32 e.s][j]? = some v → w3.cell? ((⟨b, off + k * 6, none⟩ : Addr).add j) = some v)
      have O3 := Lib.hid (own_fr0 HOW.out hHeld)
      have P3 := Lib.hid (HPP.out.fr0 hHeld)
      have A3 := Lib.hid (HA.out.fr hHeld (by simp))
      have hs3 := hHeld.size
      clear hf3 hHeld
      obtain ⟨Z, hZ⟩ : ∃ Z, ((C : Int) == 0) = Z := ⟨_, rfl⟩
      have hZ2 : (C == 0) = Z := by rw [← hZ, Bool.eq_iff_iff]; simp only [beq_iff_eq]; omega
      have hZN : Z = true ↔ C = 0 := by rw [← hZ2]; simp
      cases Z
      · have hC0 : C ≠ 0 := fun h => by have := hZN.2 h; cases this
        have hft : ft C k = [(C, k)] := by unfold ft; rw [if_neg hC0]
        have hse : seeR ha hs X e k = (C, X) := by unfold seeR; rw [HCC.out, if_neg hC0]
        have hsf := HSF.out
        have hsx := HSX.out
        rw [hse] at hsf hsx
        dsimp only at hsf hsx
        rw [hft] at hsf
        have HSF := Lib.hid hsf
        have HSX := Lib.hid hsx
        have HNW := Lib.hid ((At.new w3 46 #[.int .i64 C, .int .i64 k]).two 0 (.int .i64 C) (.int .i64 k) rfl rfl)
        clear hZN hC0 hft hse hsf hsx
        go_wp2_with (at_builtin; refine wpList_append_own_at _ rfl (.tmp 33) (.tmp 37) 37 rfl (q + 1) 46 i0 (.agg #[.int .i64 0, .int .i64 0]) 2 16 Try.underlying37 hi hz0 hz1 hz2 rfl (by omega) u5 F.length (flt F) rfl (O3.out.alloc _) ⟨w3.heap.size, 0, none⟩ 1 1 [.int .i64 C, .int .i64 k] rfl rfl HNW.out (by simp [Value.oneCell']) (by unfold maxLen; omega) (by omega) (by simp; omega) ?_; intro v1 w7 hown7 hg7 hnil7 hat7)
        have hfa : Fr [] w3 (w3.alloc (.cells #[.int .i64 C, .int .i64 k] 46)) := (Fr.refl _ _).alloc _
        have O7 := O3.out.alloc (.cells #[.int .i64 C, .int .i64 k] 46)
        have P4 := P3.out.fr0 hfa
        have F7 := Lib.hid (((F3.out.trans0 hfa).trans (Fr.grown hg7) (fun g hg => by
          cases hv : u5.ownBlock with
          | none => rw [hv] at hg; simp at hg
          | some x => rw [hv] at hg; simp at hg; subst hg; have := (O7.lt _ hv).1; right; omega)))
        have P7 := Lib.hid (P4.fr (Fr.grown hg7) (own_toList O7 P4.at_ (by decide)) (toL (own_sep P4.g O7 (by decide))) (toL (own_sep P4.e O7 (by decide))) (toL (own_sep P4.a O7 (by decide))) (toL (own_sep P4.t O7 (by decide))))
        have A7 := Lib.hid ((A3.out.fr hfa (by simp)).fr (Fr.grown hg7) (own_toList O7 (A3.out.fr hfa (by simp)) (by decide)))
        have O8 := Lib.hid hown7
        clear hg7 hown7 O7 P4 hfa
        go_roundw
        case rel =>
          have P9 := P7.out
          rw [← HSX.out] at P9
          refine ⟨k + 1, _, _, _, _, by omega, by go_num, ?_, P9, A7.out, F7.out⟩
          rw [HSF.out, List.length_append, flt_app]; exact O8.out
        case measure => simp [intOf]; omega
      · have hC0 : C = 0 := hZN.1 rfl
        have hft : ft 0 k = [] := rfl
        have hse : seeR ha hs X e k = (0, countR X e k) := by unfold seeR; rw [HCC.out, if_pos hC0]
        have hsf := HSF.out
        have hsx := HSX.out
        rw [hse] at hsf hsx
        dsimp only at hsf hsx
        rw [hft, List.append_nil] at hsf
        have HSF := Lib.hid hsf
        have HSX := Lib.hid hsx
        have CC2 := Lib.hid (CC.out w3 D3.out hC0)
        clear hZN hC0 hft hse hsf hsx CC
        go_wp2_with (refine wpList_load_at rfl 41 (.tmp 29) rfl ⟨b, off + k * 6, none⟩ rfl [.int .i64 e.kind, .int .i64 e.hart, .int .u32 e.val, .int .u64 e.num, .int .u32 e.a, .int .u32 e.s] _ HC3.out Try.underlying41 rfl infoEv ?_)
        refine (CC2.out).mono ?_
        rintro e1 w4 ⟨⟨v4, rfl⟩, ⟨gv', ev', av', tv', hP4⟩, hf4⟩
        have hge := P3.out.ge
        have F4 := Lib.hid (F3.out.trans hf4 (fun g hg => .inr (by have := hge g hg; omega)))
        have O4 := Lib.hid (own_fr O3.out hf4 (P3.out.apart O3.out (by decide) (by decide) (by decide) (by decide)))
        have A4 := Lib.hid (A3.out.fr hf4 (fun hm => by have := hge _ hm; omega))
        have P4 := Lib.hid hP4
        clear hP4 hf4 hge
        go_wp2_with fail
        go_roundw
        case rel =>
          have P9 := P4.out
          rw [← HSX.out] at P9
          refine ⟨k + 1, _, _, _, _, by omega, by go_num, ?_, P9, A4.out, F4.out⟩
          rw [HSF.out]; exact O4.out
        case measure => simp [intOf]; omega
    · obtain rfl : k = n := by omega
      go_wp2_with fail
      go_ret
      have e1 : l.take k = l := by rw [← HN.out, List.take_length]
      rw [e1] at hown
      exact ⟨_, rfl, own_base hown (by omega), FR.out⟩
end Go.Proofs.Ytkbdoiefgmbikaa
