/-
  QuarantineDrains: once a ticket is done nothing waits that was freed before it was asked for. No condition.
-/



import Derived.Test.YtflhpgfnffmimaaStep
import Derived.Test.YtflhpgfnffmimaaSrc
import Derived.Deep.CutBlock
import Derived.Deep.DeepCutAuto
set_option linter.unusedVariables false
namespace Go.Proofs.Ytflhpgfnffmimaa
open Go.ChangeShapes Go.WideShapes Go.ChangeAt Go.RowKit
namespace quarantineDrains
open once drn
/-- Bytes that came in. -/
structure In8 (w : World) (a : Option Addr) (len b off : Nat) (zk : Nat → Nat) : Prop where
  ad : len = 0 ∨ a = some ⟨b, off, none⟩
  hb : 0 < len → b < w.heap.size
  hz : ∀ i, i < len → zk i < 256
  hc : ∀ i, i < len → w.cell? ⟨b, off + i, none⟩ = some (.int .u8 (zk i : Nat))
theorem In8.fr {w w' : World} {a : Option Addr} {len b off : Nat} {zk : Nat → Nat} (h : In8 w a len b off zk) (f : Fr [] w w') : In8 w' a len b off zk :=
  ⟨h.ad, fun h0 => by have := h.hb h0; have := f.size; omega, h.hz, fun i hi => (f.cell (a := ⟨b, off + i, none⟩) (h.hb (by omega)) (by simp)).trans (h.hc i hi)⟩
theorem in8_of {w : World} {a : Option Addr} {len : Nat} {z : List Int} (h : Ints .u8 w a len z) : ∃ b off zk, In8 w a len b off zk := by
  obtain ⟨h1, h2, h3, h4⟩ := h
  have hB : ∀ i, i < len → 0 ≤ z.getD i 0 ∧ z.getD i 0 ≤ 255 := fun i hi => bounds_u8 (h3 (z.getD i 0) (by
    rw [List.getD_eq_getElem?_getD, List.getElem?_eq_getElem (by rw [h2]; exact hi)]
    exact List.getElem_mem _))
  rcases h4 with h4 | ⟨b, off, h5, h6, h7⟩
  · exact ⟨0, 0, fun _ => 0, .inl h4, fun h => by omega, fun i hi => by omega, fun i hi => by omega⟩
  · exact ⟨b, off, fun i => (z.getD i 0).toNat, .inr h5, fun _ => h6, fun i hi => by have := hB i hi; (try dsimp only); omega, fun i hi => by rw [h7 i hi, Int.toNat_of_nonneg (hB i hi).1]⟩
theorem own_at' {w : World} {b n size : Nat} {e : TypeId} {v : Value} {xs : List Value} (h : w.ownsRow b e size v n xs) : ∀ g, v.ownBlock = some g → ∃ t cs, At w g t cs := fun g hg => by
  rcases h.2 with ⟨rfl, _⟩ | ⟨g', cap, cur, rfl, _, hgg, _⟩
  · simp [Value.ownBlock] at hg
  · simp [Value.ownBlock] at hg; subst hg; exact ⟨e, cur, hgg⟩
theorem foot_lt {w0 w : World} {y : Nat} {m : MS} {s : YS} (h : Yw w0 w y m s) : ∀ k ∈ s.foot, k < w.heap.size := fun k hk => by
  unfold YS.foot at hk
  rcases List.mem_cons.1 hk with e | hk
  · subst e; exact h.yd.at_.lt
  · rcases List.mem_cons.1 hk with e | hk
    · subst e; exact h.yd.wt.lt.2.2
    · cases hv : s.wv.ownBlock with
      | none => rw [hv] at hk; simp at hk
      | some g =>
        rw [hv] at hk; simp at hk; subst hk
        obtain ⟨t, cs, ha⟩ := own_at' h.yd.wt.own k hv
        exact ha.lt
theorem own_ge {w : World} {b n size : Nat} {e : TypeId} {v : Value} {xs : List Value} (h : w.ownsRow b e size v n xs) : ∀ g, v.ownBlock = some g → b ≤ g := fun g hg => by
  rcases h.2 with ⟨rfl, _⟩ | ⟨g', cap, cur, rfl, hb, _⟩
  · simp [Value.ownBlock] at hg
  · simp [Value.ownBlock] at hg; omega
/-- A list of places, apart from what the yard may change. -/
structure Old (w : World) (s : YS) (v : Value) (l : List (Nat × Nat)) : Prop where
  own : w.ownsRow 0 30 2 v l.length (rgv l)
  nf : ∀ g, v.ownBlock = some g → g ∉ s.foot
theorem Old.fr {w w' : World} {s : YS} {v : Value} {l : List (Nat × Nat)} (h : Old w s v l) (f : Fr [] w w') : Old w' s v l := ⟨own_fr0 h.own f, h.nf⟩
theorem Old.turn {w0 w w' : World} {y : Nat} {m : MS} {s s' : YS} {v : Value} {l : List (Nat × Nat)} (h : Old w s v l) (t : Turn w0 w y s m w' s') : Old w' s' v l := ⟨own_fr h.own t.f h.nf, fun g hg hk => by
  obtain ⟨_, _, ha⟩ := own_at' h.own g hg
  rcases t.foot g hk with hk | hk
  · exact h.nf g hg hk
  · have := ha.lt; omega⟩
theorem row_cells {w : World} {s : YS} {a : Option Addr} {n c : Nat} {l : List (Nat × Nat)} (h : Old w s (.slice a n c) l) (hl : l.length = n) {k : Nat} {r : Nat × Nat} (hk : l[k]? = some r) :
    ∃ g, a = some ⟨g, 0, none⟩ ∧ n ≤ c ∧ g < w.heap.size ∧ w.cell? ⟨g, k * 2, none⟩ = some (.int .u32 (r.1 : Nat)) ∧ w.cell? ⟨g, k * 2 + 1, none⟩ = some (.int .u32 (r.2 : Nat)) := by
  rcases rows_open h.own with ⟨_, h0⟩ | ⟨g, cap, cur, hv, -, hA, g1, g2, g3, g4⟩
  · have : l = [] := List.eq_nil_of_length_eq_zero h0
    subst this; simp at hk
  · injection hv with e1 e2 e3
    subst e1 e3
    refine ⟨g, rfl, by omega, hA.lt, ?_, ?_⟩
    · exact rows_at (cap := c) hA g4 (k * 2) 0 _ (by rw [List.getElem?_drop]; exact (rgv_get _ k r hk).1)
    · exact rows_at (cap := c) hA g4 (k * 2) 1 _ (by rw [List.getElem?_drop]; exact (rgv_get _ k r hk).2)
theorem any_take (l : List Nat) (x j z : Nat) (h : l[j]? = some z) : (l.take (j + 1)).any (· == x) = ((l.take j).any (· == x) || (z == x)) := by
  rw [List.take_add_one, List.any_append, h]; simp
theorem any_all (l : List Nat) (x : Nat) : (l.take l.length).any (· == x) = decide (x ∈ l) := by
  rw [List.take_length, Bool.eq_iff_iff]; simp
def st0 : St := ⟨0, false, fun _ => 0⟩
theorem st0_ok : st0.Ok := ⟨fit0, fun h => by cases h⟩
set_option maxHeartbeats 4000000 in
set_option maxRecDepth 100000 in
theorem walk0 (a1 : Option Addr) (b1 o1 len1 cap1 : Nat) (z1 : Nat → Nat) (a2 : Option Addr) (b2 o2 len2 cap2 : Nat) (z2 : Nat → Nat) (w : World) (i1 : In8 w a1 len1 b1 o1 z1) (i2 : In8 w a2 len2 b2 o2 z2) (hl1 : len1 ≤ cap1) (hm1 : cap1 ≤ maxLen) (hl2 : len2 ≤ cap2) (hm2 : cap2 ≤ maxLen) :
    Calls Try.prog 4 #[.slice a1 len1 cap1, .slice a2 len2 cap2] w fun e w' => e = .returned (.bool true) ∧ Fr [] w w' := by
  obtain ⟨i0, hi, hz0, hz1, hz2⟩ := info_parts infoRg
  have I1 := Lib.hid i1
  have I2 := Lib.hid i2
  have HM1 := Lib.hid hm1
  have HM2 := Lib.hid hm2
  have hlm1 : len1 ≤ 9223372036854775807 := by unfold maxLen at hm1; omega
  have hlm2 : len2 ≤ 9223372036854775807 := by unfold maxLen at hm2; omega
  have CN := Lib.hid fun W => (show Calls Try.prog 8 #[.int .i64 4096] W fun e w' => ∃ y s, e = .returned (.pointer (some ⟨y, 0, none⟩)) ∧ Yw W w' y ⟨256, 0, false, [], []⟩ s ∧ (∀ k ∈ s.foot, W.heap.size ≤ k) ∧ Fr [] W w' from new_m W 256 (by omega))
  clear i1 i2 hm1 hm2
  go_enter Try.func4, Try.ntmps4
  go_wp2_with fail
  refine (works_any _).mono ?_
  rintro e w1 ⟨rfl, hf1⟩
  have F1 := Lib.hid hf1
  clear hf1
  go_wp2_with fail
  refine (CN.out _).mono ?_
  rintro e w2 ⟨y, s0, rfl, h0, -, -⟩
  rw [ms0] at h0
  have Y0 := Lib.hid (show Yw w1 w2 y st0.ms s0 from h0)
  clear CN h0
  go_upto_block 0 with (fail)
  go_cut [7] (fun x wx => ∃ (σ : St) (s : YS), σ.Ok ∧ σ.ep ≤ 40 ∧ Yw w1 wx y σ.ms s)
  case first =>
    go_wp2_with fail
    go_loopw [7] (fun i wr => ∃ (k : Nat) (σ : St) (s : YS), k ≤ 40 ∧ k ≤ len1 ∧ i = .int .i64 k ∧ σ.Ok ∧ σ.ep ≤ k ∧ Yw w1 wr y σ.ms s) (fun i _ => len1 - (intOf i).toNat)
    case atStart => exact ⟨0, st0, s0, by omega, by omega, rfl, st0_ok, Nat.le_refl _, Y0.out⟩
    case round =>
      clear Y0
      obtain ⟨k, σ, s, hk, hkl, rfl, ok, hep, hy⟩ := hrel
      have HY := Lib.hid hy
      have OK := Lib.hid ok
      clear hy ok
      by_cases h1 : k < len1
      · by_cases h2 : k < 40
        · skip
          obtain rfl : a1 = some ⟨b1, o1, none⟩ := I1.out.ad.resolve_left (by omega)
          have hz := (I1.out.fr (F1.out.trans0 HY.out.f)).hc k (by omega)
          have hzb := I1.out.hz k (by omega)
          have CS := Lib.hid (step_any HY.out OK.out (by omega) (z1 k) hzb)
          obtain ⟨x, hx⟩ : ∃ x, z1 k = x := ⟨_, rfl⟩
          rw [hx] at hz CS
          clear hx hzb
          go_wp2_with fail
          refine (CS.out).mono ?_
          rintro e w5 ⟨⟨v, rfl⟩, s5, h5⟩
          have Y5 := Lib.hid h5.yw
          have hep5 := stp_ep σ x
          clear h5 CS HY hz
          go_wp2_with fail
          go_roundw
          case rel => exact ⟨k + 1, _, s5, by omega, by omega, by go_num, stp_ok OK.out x, by omega, Y5.out⟩
          case measure => simp [intOf]; omega
        · have hd1 : decide ((k : Int) < (len1 : Int)) = true := by simpa using h1
          go_wp2_with fail
          go_meet
          exact ⟨σ, s, OK.out, by omega, HY.out⟩
      · go_wp2_with fail
        go_meet
        exact ⟨σ, s, OK.out, by omega, HY.out⟩
  case rest =>
    obtain ⟨σ0, s, ok0, hep, hy⟩ := hcut
    have HY := Lib.hid hy
    have OK := Lib.hid ok0
    clear Y0 hy ok0
    rename World => wx
    obtain ⟨B, hB⟩ : ∃ B, wx.heap.size = B := ⟨_, rfl⟩
    have HB := Lib.hid hB
    have hn1 := fl_le σ0.f 1 200
    have hn2 := fl_le σ0.f 2 200
    have CW := Lib.hid (show Calls Try.prog 14 #[.pointer (some ⟨y, 0, none⟩)] wx fun e w' => ∃ v, e = .returned v ∧ w'.ownsRow wx.heap.size 30 2 v (fl σ0.f 1 200).length (rgv (fl σ0.f 1 200)) ∧ Fr [] wx w' from wait_m HY.out)
    have CB := Lib.hid fun W (h : Yw w1 W y σ0.ms s) => (show Calls Try.prog 15 #[.pointer (some ⟨y, 0, none⟩)] W fun e w' => ∃ v, e = .returned v ∧ w'.ownsRow W.heap.size 30 2 v (fl σ0.f 2 200).length (rgv (fl σ0.f 2 200)) ∧ Fr [] W w' from batch_m h)
    have CT := Lib.hid fun W (h : Yw w1 W y σ0.ms s) => (show Calls Try.prog 16 #[.pointer (some ⟨y, 0, none⟩)] W fun e w' => e = .returned (.int .u64 (tk σ0)) ∧ W = w' from tick_m h)
    have HE := Lib.hid (pls_map σ0.f)
    have HPL := Lib.hid (pls_len σ0.f)
    obtain ⟨l1, hl1'⟩ : ∃ l, fl σ0.f 1 200 = l := ⟨_, rfl⟩
    obtain ⟨l2, hl2'⟩ : ∃ l, fl σ0.f 2 200 = l := ⟨_, rfl⟩
    obtain ⟨t, ht⟩ : ∃ t, tk σ0 = t := ⟨_, rfl⟩
    rw [hl1'] at CW HE HPL hn1
    rw [hl2'] at CB HE HPL hn2
    rw [ht] at CT
    rw [hB] at CW
    have HTT := Lib.hid ht
    have HL2 := Lib.hid (rgv_len l2)
    have H12 := Lib.hid (rgv_one l2)
    clear hB hl1' hl2' ht
    obtain ⟨n1, hn1'⟩ : ∃ n, l1.length = n := ⟨_, rfl⟩
    obtain ⟨n2, hn2'⟩ : ∃ n, l2.length = n := ⟨_, rfl⟩
    rw [hn1'] at CW HPL hn1
    rw [hn2'] at CB HPL hn2 HL2
    clear hn1' hn2'
    go_wp2_with fail
    refine (CW.out).mono ?_
    rintro e x1 ⟨v1, rfl, ho1, hf1⟩
    obtain ⟨va1, vc1, rfl, -⟩ := own_slice ho1
    have O1 := Lib.hid ho1
    have G1 := Lib.hid hf1
    clear ho1 hf1 CW
    go_wp2_with fail
    refine (CB.out _ (HY.out.fr G1.out)).mono ?_
    rintro e x2 ⟨v2, rfl, ho2, hf2⟩
    have S2 := Lib.hid (SrcAt.own ho2)
    obtain ⟨va2, vc2, rfl, -⟩ := own_slice ho2
    have O2 := Lib.hid (own_fr0 O1.out hf2)
    have G2 := Lib.hid (G1.out.trans0 hf2)
    clear ho2 hf2 CB O1 G1
    have hbs : B ≤ x2.heap.size := by have := G2.out.size; have := HB.out; omega
    go_wp2_with (at_builtin; refine wpList_append_src rfl (.tmp 38) (.tmp 40) 35 rfl B 30 i0 (.agg #[.int .u32 0, .int .u32 0]) 2 8 Try.underlying35 hi hz0 hz1 hz2 rfl (by omega) (.slice va1 n1 vc1) n1 (rgv l1) rfl O2.out (.slice va2 n2 vc2) n2 (rgv l2) rfl S2.out HL2.out H12.out (by unfold maxLen; omega) (by omega) (by omega) ?_; intro v3 x3 hown3 hg3 hat3)
    have G3 := Lib.hid (G2.out.trans (Fr.grown hg3) (fun k hk => .inr (by
      rw [HB.out]
      exact own_ge O2.out k (by simpa using hk))))
    have hown3' : x3.ownsRow B 30 2 v3 (n1 + n2) (rgv ((pls σ0.f).map rg)) := by rw [HE.out, rgv_append]; exact hown3
    have hl0 : ((pls σ0.f).map rg).length = n1 + n2 := by rw [List.length_map]; exact HPL.out
    obtain ⟨l0, hl0'⟩ : ∃ l, (pls σ0.f).map rg = l := ⟨_, rfl⟩
    rw [hl0'] at hown3' hl0 HE
    have HL0 := Lib.hid hl0'
    obtain ⟨va3, vc3, rfl, -⟩ := own_slice hown3'
    obtain ⟨N0, hN0⟩ : ∃ N, n1 + n2 = N := ⟨_, rfl⟩
    rw [hN0] at hown3' hl0 HPL ⊢
    have OD := Lib.hid (show Old x3 s (.slice va3 N0 vc3) l0 from ⟨by rw [hl0]; exact own_base hown3' (Nat.zero_le _), fun g hg hk => by
      have h1 := own_ge hown3' g hg
      have h2 := foot_lt HY.out g hk
      rw [HB.out] at h2
      omega⟩)
    have Y3 := Lib.hid (HY.out.fr G3.out)
    have HN0 := Lib.hid hl0
    have hN0b : N0 ≤ 400 := by omega
    clear hown3 hg3 hat3 hown3' hl0 hl0' HE hN0 S2 O2 G2 G3 HL2 H12 HY HB hn1 hn2 hbs
    refine (CT.out _ Y3.out).mono ?_
    rintro e w' ⟨rfl, rfl⟩
    clear CT
    go_upto_block 2 with (fail)
    go_cut [6, 10, 11] (fun p e x wx => ∃ (n ends : Nat) (σ : St) (s : YS), p = .int .i64 n ∧ e = .int .i64 ends ∧ n ≤ 40 ∧ n ≤ len2 ∧ ends ≤ 2 ∧ (ends = 2 → t ≤ en σ) ∧ (N0 = 0 → t ≤ en σ) ∧ σ.Ok ∧ Since σ0 σ (fun x => ∃ j, j < n ∧ z2 j = x) ∧ Yw w1 wx y σ.ms s ∧ Old wx s (.slice va3 N0 vc3) l0)
    case first =>
      have HTL := Lib.hid (tk_le σ0)
      have HTN := Lib.hid (show N0 = 0 → t = en σ0 from fun h => by rw [← HTT.out]; exact tk_nil (by rw [← pls_len, HPL.out]; exact h))
      rw [HTT.out] at HTL
      go_wp2_with fail
      go_loopw [6, 10, 11] (fun p e i wr => ∃ (k ends : Nat) (σ : St) (s : YS), p = .int .i64 k ∧ e = .int .i64 ends ∧ i = .int .i64 k ∧ k ≤ 40 ∧ k ≤ len2 ∧ σ.Ok ∧ σ.ep ≤ 40 + k ∧ en σ = en σ0 + (ends : Int) ∧ ends ≤ 2 ∧ Since σ0 σ (fun x => ∃ j, j < k ∧ z2 j = x) ∧ Yw w1 wr y σ.ms s ∧ Old wr s (.slice va3 N0 vc3) l0) (fun _ _ i _ => len2 - (intOf i).toNat)
      case atStart => exact ⟨0, 0, σ0, s, rfl, rfl, rfl, by omega, by omega, OK.out, by omega, by simp, by omega, since0 OK.out _, Y3.out, OD.out⟩
      case round =>
        clear Y3 OD
        obtain ⟨k, ends, σ, s, rfl, rfl, rfl, hk, hkl, ok, hep', hen, he2, hsi, hy, hod⟩ := hrel
        have HY := Lib.hid hy
        have OK' := Lib.hid ok
        have HOD := Lib.hid hod
        have HSI := Lib.hid hsi
        have HEN := Lib.hid hen
        clear hy ok hod hsi hen
        by_cases h1 : k < len2
        · have hd1 : decide ((k : Int) < (len2 : Int)) = true := by simpa using h1
          by_cases h2 : k < 40
          · skip
            obtain rfl : a2 = some ⟨b2, o2, none⟩ := I2.out.ad.resolve_left (by omega)
            have hz := (I2.out.fr (F1.out.trans0 HY.out.f)).hc k (by omega)
            have hzb := I2.out.hz k (by omega)
            have CD := Lib.hid (show Calls Try.prog 17 #[.pointer (some ⟨y, 0, none⟩), .int .u64 t] wr fun e w' => e = .returned (.bool (decide (t ≤ en σ))) ∧ wr = w' from done_m HY.out t)
            have CSW := Lib.hid fun W s (σ : St) (h : Yw w1 W y σ.ms s) => (show Calls Try.prog 18 #[.pointer (some ⟨y, 0, none⟩)] W fun e w' => e = .returned (.bool σ.sb) ∧ W = w' from sweep_m h)
            have CS := Lib.hid (step_any HY.out OK'.out (by omega) (z2 k) hzb)
            have HSE := Lib.hid (stp_en OK'.out (z2 k))
            have HSO := Lib.hid (stp_ok OK'.out (z2 k))
            have HSP := Lib.hid (stp_ep σ (z2 k))
            have HSS := Lib.hid (HSI.out.stp (z2 k) (P' := fun x => ∃ j, j < k + 1 ∧ z2 j = x) (fun x h => ⟨fun ⟨j, h1, h2⟩ => h ⟨j, by omega, h2⟩, fun e => h ⟨k, by omega, e.symm⟩⟩))
            obtain ⟨x, hx⟩ : ∃ x, z2 k = x := ⟨_, rfl⟩
            rw [hx] at hz CS HSE HSO HSP HSS
            clear hx hzb
            obtain ⟨σ', hσ'⟩ : ∃ σ', stp σ x = σ' := ⟨_, rfl⟩
            rw [hσ'] at CS HSE HSO HSP HSS
            clear hσ'
            obtain ⟨D, hD⟩ : ∃ D, decide (t ≤ en σ) = D := ⟨_, rfl⟩
            rw [hD] at CD
            have HD := Lib.hid hD
            clear hD
            go_wp2_with fail
            refine (CD.out).mono ?_
            rintro e w' ⟨rfl, rfl⟩
            cases D with
            | true =>
              go_wp2_with fail
              go_meet
              have hd := of_decide_eq_true HD.out
              exact ⟨k, ends, σ, s, rfl, rfl, by omega, by omega, by omega, fun _ => hd, fun _ => hd, OK'.out, HSI.out, HY.out, HOD.out⟩
            | false =>
              have hd := of_decide_eq_false HD.out
              have he3 : ends < 2 := by have := HEN.out; have := HTL.out; omega
              clear hd
              go_wp2_with fail
              refine (CSW.out _ _ _ HY.out).mono ?_
              rintro e w' ⟨rfl, rfl⟩
              go_wp2_with fail
              refine (CS.out).mono ?_
              rintro e w5 ⟨⟨v, rfl⟩, s5, h5⟩
              have Y5 := Lib.hid h5.yw
              have D5 := Lib.hid (HOD.out.turn h5)
              clear CS CD h5 hz HY HOD
              obtain ⟨b, hb⟩ : ∃ b, σ.sb = b := ⟨_, rfl⟩
              rw [hb] at HSE ⊢
              clear hb
              cases b with
              | false =>
                go_wp2_with fail
                go_roundw
                case rel => exact ⟨k + 1, ends, σ', s5, by go_num, rfl, by go_num, by omega, by omega, HSO.out, by have := HSP.out; omega, by have h1 := HSE.out; have h2 := HEN.out; rw [if_neg (by simp)] at h1; omega, by omega, HSS.out, Y5.out, D5.out⟩
                case measure => simp [intOf]; omega
              | true =>
                go_wp2_with fail
                refine (CSW.out _ _ _ Y5.out).mono ?_
                rintro e w' ⟨rfl, rfl⟩
                obtain ⟨b, hb⟩ : ∃ b, σ'.sb = b := ⟨_, rfl⟩
                rw [hb] at HSE ⊢
                clear hb
                cases b with
                | true =>
                  go_wp2_with fail
                  go_roundw
                  case rel => exact ⟨k + 1, ends, σ', s5, by go_num, rfl, by go_num, by omega, by omega, HSO.out, by have := HSP.out; omega, by have h1 := HSE.out; have h2 := HEN.out; rw [if_neg (by simp)] at h1; omega, by omega, HSS.out, Y5.out, D5.out⟩
                  case measure => simp [intOf]; omega
                | false =>
                  go_wp2_with fail
                  go_roundw
                  case rel => exact ⟨k + 1, ends + 1, σ', s5, by go_num, by go_num, by go_num, by omega, by omega, HSO.out, by have := HSP.out; omega, by have h1 := HSE.out; have h2 := HEN.out; rw [if_pos (by simp)] at h1; omega, by omega, HSS.out, Y5.out, D5.out⟩
                  case measure => simp [intOf]; omega
          · go_wp2_with fail
            go_meet
            exact ⟨k, ends, σ, s, rfl, rfl, by omega, by omega, by omega, fun h => by have := HEN.out; have := HTL.out; omega, fun h => by have := HTN.out h; have := HEN.out; omega, OK'.out, HSI.out, HY.out, HOD.out⟩
        · go_wp2_with fail
          go_meet
          exact ⟨k, ends, σ, s, rfl, rfl, by omega, by omega, by omega, fun h => by have := HEN.out; have := HTL.out; omega, fun h => by have := HTN.out h; have := HEN.out; omega, OK'.out, HSI.out, HY.out, HOD.out⟩
    case rest =>
      obtain ⟨pn, ends, σ, s', rfl, rfl, hp40, hpl, he2, hE2, hE0, ok, hsi, hy, hod⟩ := hcut
      rename World => wx
      have HY := Lib.hid hy
      have OK' := Lib.hid ok
      have HOD := Lib.hid hod
      have HSI := Lib.hid hsi
      have HE2 := Lib.hid hE2
      have HE0 := Lib.hid hE0
      clear Y3 OD hy ok hod hsi hE2 hE0
      have CD := Lib.hid (show Calls Try.prog 17 #[.pointer (some ⟨y, 0, none⟩), .int .u64 t] wx fun e w' => e = .returned (.bool (decide (t ≤ en σ))) ∧ wx = w' from done_m HY.out t)
      obtain ⟨D, hD⟩ : ∃ D, decide (t ≤ en σ) = D := ⟨_, rfl⟩
      rw [hD] at CD
      have HD := Lib.hid hD
      clear hD
      go_upto_region 21 with (fail)
      go_cut [100] (fun x wy => x = .bool false ∧ wx = wy)
      case first =>
        have hg2 : ¬ (ends : Int) > 2 := by omega
        by_cases e2 : ends = 2
        · have hD : D = true := by rw [← HD.out]; exact decide_eq_true (HE2.out e2)
          subst hD
          have hq : ((ends : Int) == 2) = true := by simp; omega
          by_cases e0 : N0 = 0
          · have hq0 : ((N0 : Int) == 0) = true := by simp; omega
            clear e2 e0
            go_wp2_with fail
            refine (CD.out).mono ?_
            rintro e w' ⟨rfl, rfl⟩
            go_wp2_with fail
            refine (CD.out).mono ?_
            rintro e w' ⟨rfl, rfl⟩
            go_wp2_with fail
            go_meet
            exact ⟨rfl, rfl⟩
          · have hq0 : ((N0 : Int) == 0) = false := by simp; omega
            clear e2 e0
            go_wp2_with fail
            refine (CD.out).mono ?_
            rintro e w' ⟨rfl, rfl⟩
            go_wp2_with fail
            go_meet
            exact ⟨rfl, rfl⟩
        · have hq : ((ends : Int) == 2) = false := by simp; omega
          by_cases e0 : N0 = 0
          · have hD : D = true := by rw [← HD.out]; exact decide_eq_true (HE0.out e0)
            subst hD
            have hq0 : ((N0 : Int) == 0) = true := by simp; omega
            clear e2 e0
            go_wp2_with fail
            refine (CD.out).mono ?_
            rintro e w' ⟨rfl, rfl⟩
            go_wp2_with fail
            go_meet
            exact ⟨rfl, rfl⟩
          · have hq0 : ((N0 : Int) == 0) = false := by simp; omega
            clear e2 e0
            go_wp2_with fail
            go_meet
            exact ⟨rfl, rfl⟩
      case rest =>
        obtain ⟨rfl, rfl⟩ := hcut
        go_wp2_with fail
        refine (CD.out).mono ?_
        rintro e w' ⟨rfl, rfl⟩
        cases D with
        | false =>
          go_wp2_with fail
          go_ret
          exact ⟨rfl, F1.out.trans0 HY.out.f⟩
        | true =>
          have hdone := of_decide_eq_true HD.out
          have HGONE := Lib.hid fun x hx hp => gone HSI.out OK'.out (by rw [HTT.out]; exact hdone) x hx hp
          clear hdone CD HD HE2 HE0 he2
          obtain ⟨ep, sb, f⟩ := σ
          dsimp only at HGONE
          have HFIT := Lib.hid OK'.out.1
          have HY' := Lib.hid (show Yw w1 wx y (once.ms ep sb f) s' from HY.out)
          clear HSI HY OK'
          obtain ⟨B, hB⟩ : ∃ B, wx.heap.size = B := ⟨_, rfl⟩
          have HB := Lib.hid hB
          have hn1 := fl_le f 1 200
          have hn2 := fl_le f 2 200
          have CW := Lib.hid (show Calls Try.prog 14 #[.pointer (some ⟨y, 0, none⟩)] wx fun e w' => ∃ v, e = .returned v ∧ w'.ownsRow wx.heap.size 30 2 v (fl f 1 200).length (rgv (fl f 1 200)) ∧ Fr [] wx w' from wait_m HY'.out)
          have CB := Lib.hid fun W (h : Yw w1 W y (once.ms ep sb f) s') => (show Calls Try.prog 15 #[.pointer (some ⟨y, 0, none⟩)] W fun e w' => ∃ v, e = .returned v ∧ w'.ownsRow W.heap.size 30 2 v (fl f 2 200).length (rgv (fl f 2 200)) ∧ Fr [] W w' from batch_m h)
          have HE := Lib.hid (pls_map f)
          have HPL2 := Lib.hid (pls_len f)
          obtain ⟨l1, hl1'⟩ : ∃ l, fl f 1 200 = l := ⟨_, rfl⟩
          obtain ⟨l2, hl2'⟩ : ∃ l, fl f 2 200 = l := ⟨_, rfl⟩
          rw [hl1'] at CW HE HPL2 hn1
          rw [hl2'] at CB HE HPL2 hn2
          rw [hB] at CW
          have HL2 := Lib.hid (rgv_len l2)
          have H12 := Lib.hid (rgv_one l2)
          clear hB hl1' hl2'
          obtain ⟨n1, hn1'⟩ : ∃ n, l1.length = n := ⟨_, rfl⟩
          obtain ⟨n2, hn2'⟩ : ∃ n, l2.length = n := ⟨_, rfl⟩
          rw [hn1'] at CW HPL2 hn1
          rw [hn2'] at CB HPL2 hn2 HL2
          clear hn1' hn2'
          go_wp2_with fail
          refine (CW.out).mono ?_
          rintro e x1 ⟨v1, rfl, ho1, hf1⟩
          obtain ⟨va1, vc1, rfl, -⟩ := own_slice ho1
          have O1 := Lib.hid ho1
          have G1 := Lib.hid hf1
          clear ho1 hf1 CW
          go_wp2_with fail
          refine (CB.out _ (HY'.out.fr G1.out)).mono ?_
          rintro e x2 ⟨v2, rfl, ho2, hf2⟩
          have S2 := Lib.hid (SrcAt.own ho2)
          obtain ⟨va2, vc2, rfl, -⟩ := own_slice ho2
          have O2 := Lib.hid (own_fr0 O1.out hf2)
          have G2 := Lib.hid (G1.out.trans0 hf2)
          clear ho2 hf2 CB O1 G1
          have hbs : B ≤ x2.heap.size := by have := G2.out.size; have := HB.out; omega
          go_wp2_with (at_builtin; refine wpList_append_src rfl (.tmp 107) (.tmp 109) 35 rfl B 30 i0 (.agg #[.int .u32 0, .int .u32 0]) 2 8 Try.underlying35 hi hz0 hz1 hz2 rfl (by omega) (.slice va1 n1 vc1) n1 (rgv l1) rfl O2.out (.slice va2 n2 vc2) n2 (rgv l2) rfl S2.out HL2.out H12.out (by unfold maxLen; omega) (by omega) (by omega) ?_; intro v3 x3 hown3 hg3 hat3)
          have G3 := Lib.hid (G2.out.trans (Fr.grown hg3) (fun k hk => .inr (by
            rw [HB.out]
            exact own_ge O2.out k (by simpa using hk))))
          have hown3' : x3.ownsRow B 30 2 v3 (n1 + n2) (rgv ((pls f).map rg)) := by rw [HE.out, rgv_append]; exact hown3
          have hlq : ((pls f).map rg).length = n1 + n2 := by rw [List.length_map]; exact HPL2.out
          obtain ⟨lq, hlq'⟩ : ∃ l, (pls f).map rg = l := ⟨_, rfl⟩
          rw [hlq'] at hown3' hlq HE
          have HLQ := Lib.hid hlq'
          obtain ⟨vaq, vcq, rfl, -⟩ := own_slice hown3'
          obtain ⟨NQ, hNQ⟩ : ∃ N, n1 + n2 = N := ⟨_, rfl⟩
          rw [hNQ] at hown3' hlq HPL2 ⊢
          have OQ := Lib.hid (show Old x3 s' (.slice vaq NQ vcq) lq from ⟨by rw [hlq]; exact own_base hown3' (Nat.zero_le _), fun g hg hk => by
            have h1 := own_ge hown3' g hg
            have h2 := foot_lt HY'.out g hk
            rw [HB.out] at h2
            omega⟩)
          have OD := Lib.hid (HOD.out.fr G3.out)
          have Y3 := Lib.hid (HY'.out.fr G3.out)
          have HNQ := Lib.hid hlq
          have hNQb : NQ ≤ 400 := by omega
          clear hown3 hg3 hat3 hown3' hlq hlq' HE hNQ S2 O2 G2 G3 HL2 H12 HY' HOD HB hn1 hn2 hbs
          go_wp2_with fail
          go_loopw [14] (fun i wr => ∃ (k : Nat) (g : Nat → Nat) (s : YS), k ≤ N0 ∧ i = .int .i64 k ∧ Fit g sb ∧ (∀ x, g x = f x ∨ ∃ j, j < k ∧ (pls σ0.f)[j]? = some x) ∧ Yw w1 wr y (once.ms ep sb g) s ∧ Old wr s (.slice va3 N0 vc3) l0 ∧ Old wr s (.slice vaq NQ vcq) lq) (fun i _ => N0 - (intOf i).toNat)
          case atStart => exact ⟨0, f, s', by omega, rfl, HFIT.out, fun x => .inl rfl, Y3.out, OD.out, OQ.out⟩
          case round =>
            clear Y3 OD OQ
            obtain ⟨k, g, s, hk, rfl, hfit, hsame, hy, hod, hoq⟩ := hrel
            have HY := Lib.hid hy
            have OD := Lib.hid hod
            have OQ := Lib.hid hoq
            have HFG := Lib.hid hfit
            have HSM := Lib.hid hsame
            clear hy hod hoq hfit hsame
            by_cases hkn : k < N0
            · obtain ⟨x, hx⟩ : ∃ x, (pls σ0.f)[k]? = some x := ⟨_, List.getElem?_eq_getElem (by rw [HPL.out]; exact hkn)⟩
              have hx2 := (pls_mem.1 (List.mem_of_getElem? hx)).1
              have hgx : g x = f x := by
                rcases HSM.out x with h | ⟨j, hj, hjx⟩
                · exact h
                · have := (List.getElem?_inj (by rw [HPL.out]; omega) (pls_nodup σ0.f)).1 (hjx.trans hx.symm)
                  omega
              have hr : l0[k]? = some (rg x) := by rw [← HL0.out, List.getElem?_map, hx]; rfl
              obtain ⟨g0, rfl, hnc0, hg0, q0, q1⟩ := row_cells OD.out HN0.out hr
              have HX := Lib.hid hx
              have HGX := Lib.hid hgx
              obtain ⟨X, hX⟩ : ∃ X, 16 * x = X := ⟨_, rfl⟩
              have Q0 := Lib.hid (show wr.cell? ⟨g0, k * 2 + 0, none⟩ = some (.int .u32 (X : Int)) by rw [← hX]; exact q0)
              have Q1 := Lib.hid (show wr.cell? ⟨g0, k * 2 + 1, none⟩ = some (.int .u32 16) from q1)
              have HXX := Lib.hid hX
              have HG0 := Lib.hid hg0
              clear hx hgx hr q0 q1 hX hg0
              go_wp2_with fail
              go_loopw [15, 16] (fun a n wq => ∃ j : Nat, j ≤ NQ ∧ n = .int .i64 j ∧ a = .bool (((pls f).take j).any (· == x)) ∧ Fr [] wr wq) (fun _ n _ => NQ - (intOf n).toNat)
              case atStart => exact ⟨0, by omega, rfl, rfl, Fr.refl _ _⟩
              case round =>
                obtain ⟨j, hj, rfl, rfl, hfj⟩ := hrel
                have FJ := Lib.hid hfj
                clear hfj
                rename World => wq
                by_cases hjn : j < NQ
                · obtain ⟨z, hz⟩ : ∃ z, (pls f)[j]? = some z := ⟨_, List.getElem?_eq_getElem (by rw [HPL2.out, ]; exact hjn)⟩
                  have hrz : lq[j]? = some (rg z) := by rw [← HLQ.out, List.getElem?_map, hz]; rfl
                  obtain ⟨g1, rfl, hnc1, hg1, p0, p1⟩ := row_cells OQ.out HNQ.out hrz
                  have HAT := Lib.hid (any_take (pls f) x j z hz)
                  obtain ⟨A, hA⟩ : ∃ A, ((pls f).take j).any (· == x) = A := ⟨_, rfl⟩
                  rw [hA] at HAT ⊢
                  obtain ⟨Z, hZ⟩ : ∃ Z, 16 * z = Z := ⟨_, rfl⟩
                  have P0 := Lib.hid (show wr.cell? ⟨g1, j * 2 + 0, none⟩ = some (.int .u32 (Z : Int)) by rw [← hZ]; exact p0)
                  have P1 := Lib.hid (show wr.cell? ⟨g1, j * 2 + 1, none⟩ = some (.int .u32 16) from p1)
                  have HG1 := Lib.hid hg1
                  have EQ := fun w => rg_eq (Z : Int) 16 X 16 w
                  simp only [decide_true, Bool.and_true] at EQ
                  have hzx : decide ((Z : Int) = (X : Int)) = (z == x) := by
                    have := HXX.out
                    rw [Bool.eq_iff_iff]
                    simp
                    omega
                  simp only [hzx] at EQ
                  obtain ⟨E, hE⟩ : ∃ E, (z == x) = E := ⟨_, rfl⟩
                  rw [hE] at HAT
                  simp only [hE] at EQ
                  have hji : (j : Int) < NQ := by omega
                  have hki : (k : Int) < N0 := by omega
                  clear hz hrz hA hZ p0 p1 hg1 hzx hE
                  cases A with
                  | true =>
                    go_wp2_with fail
                    refine wp_region_L (fun W => Fr [] wq W) [] (by kernel_rfl) ((Fr.refl _ _).drew) (fun hHeld => ?_)
                    refine wpAnyL_take (i := 0) (v := ?_) rfl (by kernel_rfl) (fun _ _ _ h => h) (Or.inl ⟨by rfl, ?_⟩) (by assumption) ?_; rotate_left; (focus (intro w hSw; skip; go_simp; (try with_reducible rfl))); (try (refine wpAnyL_norm (by simp only [Act.put, List.setIfInBounds_toArray, List.set_cons_zero, List.set_cons_succ]; rfl) ?_))
                    refine wpAnyL_take (i := 1) (v := ?_) rfl (by kernel_rfl) (fun _ _ _ h => h) (Or.inl ⟨by rfl, ?_⟩) (by assumption) ?_; rotate_left; (focus (intro w hSw; skip; go_simp; (try with_reducible rfl))); (try (refine wpAnyL_norm (by simp only [Act.put, List.setIfInBounds_toArray, List.set_cons_zero, List.set_cons_succ]; rfl) ?_))
                    refine wpAnyL_take (i := 2) (v := undef) rfl (by kernel_rfl) (fun _ _ _ h => h) (Or.inr ⟨by rfl, rfl⟩) (by assumption) ?_; (try (refine wpAnyL_norm (by simp only [Act.put, List.setIfInBounds_toArray, List.set_cons_zero, List.set_cons_succ]; rfl) ?_))
                    refine wpAnyL_take (i := 3) (v := undef) rfl (by kernel_rfl) (fun _ _ _ h => h) (Or.inr ⟨by rfl, rfl⟩) (by assumption) ?_; (try (refine wpAnyL_norm (by simp only [Act.put, List.setIfInBounds_toArray, List.set_cons_zero, List.set_cons_succ]; rfl) ?_))
                    refine wpAnyL_take (i := 4) (v := undef) rfl (by kernel_rfl) (fun _ _ _ h => h) (Or.inr ⟨by rfl, rfl⟩) (by assumption) ?_; (try (refine wpAnyL_norm (by simp only [Act.put, List.setIfInBounds_toArray, List.set_cons_zero, List.set_cons_succ]; rfl) ?_))
                    refine wpAnyL_take (i := 5) (v := undef) rfl (by kernel_rfl) (fun _ _ _ h => h) (Or.inr ⟨by rfl, rfl⟩) (by assumption) ?_; (try (refine wpAnyL_norm (by simp only [Act.put, List.setIfInBounds_toArray, List.set_cons_zero, List.set_cons_succ]; rfl) ?_))
                    refine wpAnyL_take (i := 6) (v := undef) rfl (by kernel_rfl) (fun _ _ _ h => h) (Or.inr ⟨by rfl, rfl⟩) (by assumption) ?_; (try (refine wpAnyL_norm (by simp only [Act.put, List.setIfInBounds_toArray, List.set_cons_zero, List.set_cons_succ]; rfl) ?_))
                    refine wpAnyL_take (i := 7) (v := undef) rfl (by kernel_rfl) (fun _ _ _ h => h) (Or.inr ⟨by rfl, rfl⟩) (by assumption) ?_; (try (refine wpAnyL_norm (by simp only [Act.put, List.setIfInBounds_toArray, List.set_cons_zero, List.set_cons_succ]; rfl) ?_))
                    refine wpAnyL_take (i := 8) (v := undef) rfl (by kernel_rfl) (fun _ _ _ h => h) (Or.inr ⟨by rfl, rfl⟩) (by assumption) ?_; (try (refine wpAnyL_norm (by simp only [Act.put, List.setIfInBounds_toArray, List.set_cons_zero, List.set_cons_succ]; rfl) ?_))
                    refine wpAnyL_take (i := 9) (v := undef) rfl (by kernel_rfl) (fun _ _ _ h => h) (Or.inr ⟨by rfl, rfl⟩) (by assumption) ?_; (try (refine wpAnyL_norm (by simp only [Act.put, List.setIfInBounds_toArray, List.set_cons_zero, List.set_cons_succ]; rfl) ?_))
                    refine wpAnyL_take (i := 10) (v := undef) rfl (by kernel_rfl) (fun _ _ _ h => h) (Or.inr ⟨by rfl, rfl⟩) (by assumption) ?_; (try (refine wpAnyL_norm (by simp only [Act.put, List.setIfInBounds_toArray, List.set_cons_zero, List.set_cons_succ]; rfl) ?_))
                    refine wpAnyL_take (i := 11) (v := ?_) rfl (by kernel_rfl) (fun _ _ _ h => h) (Or.inl ⟨by rfl, ?_⟩) (by assumption) ?_; rotate_left; (focus (intro w hSw; skip; go_simp; (try with_reducible rfl))); (try (refine wpAnyL_norm (by simp only [Act.put, List.setIfInBounds_toArray, List.set_cons_zero, List.set_cons_succ]; rfl) ?_))
                    refine wpAnyL_take (i := 12) (v := ?_) rfl (by kernel_rfl) (fun _ _ _ h => h) (Or.inl ⟨by rfl, ?_⟩) (by assumption) ?_; rotate_left; (focus (intro w hSw; skip; go_simp; (try with_reducible rfl))); (try (refine wpAnyL_norm (by simp only [Act.put, List.setIfInBounds_toArray, List.set_cons_zero, List.set_cons_succ]; rfl) ?_))
                    refine wpAnyL_done (by kernel_rfl) ?_ _
                    have F6 := Lib.hid (FJ.out.trans0 hHeld)
                    clear hHeld
                    go_wp2_with fail
                    go_roundw
                    case rel => exact ⟨j + 1, by omega, by go_num, by rw [HAT.out]; rfl, F6.out⟩
                    case measure => simp [intOf]; omega
                  | false =>
                    go_wp2_with fail
                    refine wp_region_L (fun W => Fr [] wq W) [] (by kernel_rfl) ((Fr.refl _ _).drew) (fun hHeld => ?_)
                    refine wpAnyL_take (i := 0) (v := ?_) rfl (by kernel_rfl) (fun _ _ _ h => h) (Or.inl ⟨by rfl, ?_⟩) (by assumption) ?_; rotate_left; (focus (intro w hSw; skip; go_simp; (try with_reducible rfl))); (try (refine wpAnyL_norm (by simp only [Act.put, List.setIfInBounds_toArray, List.set_cons_zero, List.set_cons_succ]; rfl) ?_))
                    refine wpAnyL_take (i := 1) (v := ?_) rfl (by kernel_rfl) (fun _ _ _ h => h) (Or.inl ⟨by rfl, ?_⟩) (by assumption) ?_; rotate_left; (focus (intro w hSw; skip; go_simp; (try with_reducible rfl))); (try (refine wpAnyL_norm (by simp only [Act.put, List.setIfInBounds_toArray, List.set_cons_zero, List.set_cons_succ]; rfl) ?_))
                    refine wpAnyL_take (i := 2) (v := ?_) rfl (by kernel_rfl) (fun _ _ _ h => h) (Or.inl ⟨by rfl, ?_⟩) (by assumption) ?_; rotate_left; (focus (intro w hSw; skip; go_simp; (try with_reducible rfl))); (try (refine wpAnyL_norm (by simp only [Act.put, List.setIfInBounds_toArray, List.set_cons_zero, List.set_cons_succ]; rfl) ?_))
                    refine wpAnyL_take (i := 3) (v := ?_) rfl (by kernel_rfl) (fun _ _ _ h => h) (Or.inl ⟨by rfl, ?_⟩) (by assumption) ?_; rotate_left; (focus (intro w hSw; skip; go_simp; (try with_reducible rfl))); (try (refine wpAnyL_norm (by simp only [Act.put, List.setIfInBounds_toArray, List.set_cons_zero, List.set_cons_succ]; rfl) ?_))
                    refine wpAnyL_take (i := 4) (v := ?_) rfl (by kernel_rfl) (fun _ _ _ h => h) (Or.inl ⟨by rfl, ?_⟩) (by assumption) ?_; rotate_left; (focus (intro w hSw; skip; go_simp; (try with_reducible rfl))); (try (refine wpAnyL_norm (by simp only [Act.put, List.setIfInBounds_toArray, List.set_cons_zero, List.set_cons_succ]; rfl) ?_))
                    refine wpAnyL_take (i := 5) rfl (by kernel_rfl) (fun _ _ _ h => h) (yields_load_at 30 (.tmp 127) rfl ⟨g1, j * 2, none⟩ rfl [.int .u32 Z, .int .u32 16] _ (fun W h jj v hv => by
                        rw [Go.WideShapes.add_plain]
                        match jj, hv with
                        | 0, hv => exact (((FJ.out.trans0 h).cell (a := ⟨g1, j * 2 + 0, none⟩) HG1.out (by simp)).trans P0.out).trans hv
                        | 1, hv => exact (((FJ.out.trans0 h).cell (a := ⟨g1, j * 2 + 1, none⟩) HG1.out (by simp)).trans P1.out).trans hv) Try.underlying30 rfl infoRgS rfl) (by assumption) ?_; (try (refine wpAnyL_norm (by simp only [Act.put, List.setIfInBounds_toArray, List.set_cons_zero, List.set_cons_succ]; rfl) ?_))
                    refine wpAnyL_take (i := 6) (v := ?_) rfl (by kernel_rfl) (fun _ _ _ h => h) (Or.inl ⟨by rfl, ?_⟩) (by assumption) ?_; rotate_left; (focus (intro w hSw; skip; go_simp; (try with_reducible rfl))); (try (refine wpAnyL_norm (by simp only [Act.put, List.setIfInBounds_toArray, List.set_cons_zero, List.set_cons_succ]; rfl) ?_))
                    refine wpAnyL_take (i := 7) (v := ?_) rfl (by kernel_rfl) (fun _ _ _ h => h) (Or.inl ⟨by rfl, ?_⟩) (by assumption) ?_; rotate_left; (focus (intro w hSw; skip; go_simp; (try with_reducible rfl))); (try (refine wpAnyL_norm (by simp only [Act.put, List.setIfInBounds_toArray, List.set_cons_zero, List.set_cons_succ]; rfl) ?_))
                    refine wpAnyL_take (i := 8) (v := ?_) rfl (by kernel_rfl) (fun _ _ _ h => h) (Or.inl ⟨by rfl, ?_⟩) (by assumption) ?_; rotate_left; (focus (intro w hSw; skip; go_simp; (try with_reducible rfl))); (try (refine wpAnyL_norm (by simp only [Act.put, List.setIfInBounds_toArray, List.set_cons_zero, List.set_cons_succ]; rfl) ?_))
                    refine wpAnyL_take (i := 9) rfl (by kernel_rfl) (fun _ _ _ h => h) (yields_load_at 30 (.tmp 131) rfl ⟨g0, k * 2, none⟩ rfl [.int .u32 X, .int .u32 16] _ (fun W h jj v hv => by
                        rw [Go.WideShapes.add_plain]
                        match jj, hv with
                        | 0, hv => exact (((FJ.out.trans0 h).cell (a := ⟨g0, k * 2 + 0, none⟩) HG0.out (by simp)).trans Q0.out).trans hv
                        | 1, hv => exact (((FJ.out.trans0 h).cell (a := ⟨g0, k * 2 + 1, none⟩) HG0.out (by simp)).trans Q1.out).trans hv) Try.underlying30 rfl infoRgS rfl) (by assumption) ?_; (try (refine wpAnyL_norm (by simp only [Act.put, List.setIfInBounds_toArray, List.set_cons_zero, List.set_cons_succ]; rfl) ?_))
                    refine wpAnyL_take (i := 10) (v := ?_) rfl (by kernel_rfl) (fun _ _ _ h => h) (Or.inl ⟨by rfl, ?_⟩) (by assumption) ?_; rotate_left; (focus (intro w hSw; skip; go_simp; (try with_reducible rfl))); (try (refine wpAnyL_norm (by simp only [Act.put, List.setIfInBounds_toArray, List.set_cons_zero, List.set_cons_succ]; rfl) ?_))
                    refine wpAnyL_take (i := 11) (v := ?_) rfl (by kernel_rfl) (fun _ _ _ h => h) (Or.inl ⟨by rfl, ?_⟩) (by assumption) ?_; rotate_left; (focus (intro w hSw; skip; go_simp; (try with_reducible rfl))); (try (refine wpAnyL_norm (by simp only [Act.put, List.setIfInBounds_toArray, List.set_cons_zero, List.set_cons_succ]; rfl) ?_))
                    refine wpAnyL_take (i := 12) (v := ?_) rfl (by kernel_rfl) (fun _ _ _ h => h) (Or.inl ⟨by rfl, ?_⟩) (by assumption) ?_; rotate_left; (focus (intro w hSw; skip; go_simp; (try with_reducible rfl))); (try (refine wpAnyL_norm (by simp only [Act.put, List.setIfInBounds_toArray, List.set_cons_zero, List.set_cons_succ]; rfl) ?_))
                    refine wpAnyL_done (by kernel_rfl) ?_ _
                    have F6 := Lib.hid (FJ.out.trans0 hHeld)
                    clear hHeld
                    go_wp2_with fail
                    go_roundw
                    case rel => exact ⟨j + 1, by omega, by go_num, by rw [HAT.out]; rfl, F6.out⟩
                    case measure => simp [intOf]; omega
                · obtain rfl : j = NQ := by omega
                  rw [show ((pls f).take j).any (· == x) = decide (x ∈ pls f) by rw [← any_all, HPL2.out]]
                  obtain ⟨M, hM⟩ : ∃ M, decide (x ∈ pls f) = M := ⟨_, rfl⟩
                  rw [hM]
                  have HM := Lib.hid hM
                  clear hM
                  have hki : (k : Int) < N0 := by omega
                  cases M with
                  | true =>
                    have hex : ∃ j, j < pn ∧ z2 j = x := Classical.byContradiction fun h => by
                      have h1 := HGONE.out x hx2 h
                      have h2 := pls_mem.1 (of_decide_eq_true HM.out)
                      omega
                    have CFR := Lib.hid fun W (h : Fr [] wq W) => (show Calls Try.prog 19 #[.slice a2 pn cap2, .agg #[.int .u32 (X : Int), .int .u32 16]] W fun e w' => e = .returned (.bool true) ∧ Fr [] W w' from by
                      have i := I2.out.fr (((F1.out.trans0 HY.out.f).trans0 FJ.out).trans0 h)
                      have r := freed_any W a2 pn cap2 b2 o2 (i.ad.imp (fun h => by omega) id) (by omega) z2 (fun j hj => i.hz j (by omega)) (fun h0 => i.hb (by omega)) (fun j hj => i.hc j (by omega)) x hx2 hex (by omega)
                      rw [HXX.out] at r
                      exact r)
                    have hsl := fun W => run_upto (P := Try.prog) Try.underlying22 (e := 5) (size := 1) (by kernel_rfl) a2 len2 cap2 pn (by omega) W
                    clear hex
                    go_wp2_with fail
                    refine wp_region_L (fun W => Fr [] wq W) [] (by kernel_rfl) ((Fr.refl _ _).drew) (fun hHeld => ?_)
                    refine wpAnyL_take (i := 0) (v := ?_) rfl (by kernel_rfl) (fun _ _ _ h => h) (Or.inl ⟨by rfl, ?_⟩) (by assumption) ?_; rotate_left; (focus (intro w hSw; skip; go_simp; (try with_reducible rfl))); (try (refine wpAnyL_norm (by simp only [Act.put, List.setIfInBounds_toArray, List.set_cons_zero, List.set_cons_succ]; rfl) ?_))
                    refine wpAnyL_take (i := 1) (v := ?_) rfl (by kernel_rfl) (fun _ _ _ h => h) (Or.inl ⟨by rfl, ?_⟩) (by assumption) ?_; rotate_left; (focus (intro w hSw; skip; go_simp; (try with_reducible rfl))); (try (refine wpAnyL_norm (by simp only [Act.put, List.setIfInBounds_toArray, List.set_cons_zero, List.set_cons_succ]; rfl) ?_))
                    refine wpAnyL_take (i := 2) (v := ?_) rfl (by kernel_rfl) (fun _ _ _ h => h) (Or.inl ⟨by rfl, ?_⟩) (by assumption) ?_; rotate_left; (focus (intro w hSw; skip; go_simp; (try with_reducible rfl))); (try (refine wpAnyL_norm (by simp only [Act.put, List.setIfInBounds_toArray, List.set_cons_zero, List.set_cons_succ]; rfl) ?_))
                    refine wpAnyL_take (i := 3) (v := ?_) rfl (by kernel_rfl) (fun _ _ _ h => h) (Or.inl ⟨by rfl, ?_⟩) (by assumption) ?_; rotate_left; (focus (intro w hSw; skip; go_simp; (try with_reducible rfl))); (try (refine wpAnyL_norm (by simp only [Act.put, List.setIfInBounds_toArray, List.set_cons_zero, List.set_cons_succ]; rfl) ?_))
                    refine wpAnyL_take (i := 4) (v := ?_) rfl (by kernel_rfl) (fun _ _ _ h => h) (Or.inl ⟨by rfl, ?_⟩) (by assumption) ?_; rotate_left; (focus (intro w hSw; skip; go_simp; (try with_reducible rfl))); (try (refine wpAnyL_norm (by simp only [Act.put, List.setIfInBounds_toArray, List.set_cons_zero, List.set_cons_succ]; rfl) ?_))
                    refine wpAnyL_take (i := 5) (v := ?_) rfl (by kernel_rfl) (fun _ _ _ h => h) (Or.inl ⟨by rfl, ?_⟩) (by assumption) ?_; rotate_left; (focus (intro w hSw; skip; go_simp; (try with_reducible rfl))); (try (refine wpAnyL_norm (by simp only [Act.put, List.setIfInBounds_toArray, List.set_cons_zero, List.set_cons_succ]; rfl) ?_))
                    refine wpAnyL_take (i := 6) (v := ?_) rfl (by kernel_rfl) (fun _ _ _ h => h) (Or.inl ⟨by rfl, ?_⟩) (by assumption) ?_; rotate_left; (focus (intro w hSw; skip; go_simp; (try with_reducible rfl))); (try (refine wpAnyL_norm (by simp only [Act.put, List.setIfInBounds_toArray, List.set_cons_zero, List.set_cons_succ]; rfl) ?_))
                    refine wpAnyL_take (i := 7) (v := ?_) rfl (by kernel_rfl) (fun _ _ _ h => h) (Or.inl ⟨by rfl, ?_⟩) (by assumption) ?_; rotate_left; (focus (intro w hSw; skip; go_simp; (try with_reducible rfl))); (try (refine wpAnyL_norm (by simp only [Act.put, List.setIfInBounds_toArray, List.set_cons_zero, List.set_cons_succ]; rfl) ?_))
                    refine wpAnyL_take (i := 8) rfl (by kernel_rfl) (fun _ _ _ h => h) (yields_load_at 30 (.tmp 142) rfl ⟨g0, k * 2, none⟩ rfl [.int .u32 X, .int .u32 16] _ (fun W h jj v hv => by
                        rw [Go.WideShapes.add_plain]
                        match jj, hv with
                        | 0, hv => exact (((FJ.out.trans0 h).cell (a := ⟨g0, k * 2 + 0, none⟩) HG0.out (by simp)).trans Q0.out).trans hv
                        | 1, hv => exact (((FJ.out.trans0 h).cell (a := ⟨g0, k * 2 + 1, none⟩) HG0.out (by simp)).trans Q1.out).trans hv) Try.underlying30 rfl infoRgS rfl) (by assumption) ?_; (try (refine wpAnyL_norm (by simp only [Act.put, List.setIfInBounds_toArray, List.set_cons_zero, List.set_cons_succ]; rfl) ?_))
                    refine wpAnyL_ready (rs := [9]) (by kernel_rfl) (by simp) ?_; refine AllReadyL.cons rfl (fun K hK => ?_) AllReadyL.nil
                    go_simp
                    refine (CFR.out _ hHeld).mono ?_
                    rintro e w6 ⟨rfl, hf6⟩
                    refine hK.out _ _ (fun _ => (hHeld.trans0 hf6)) (fun hHeld' => ?_); have hHeld := hHeld' (by decide); clear hHeld' hK K; (try (refine wpAnyL_norm (by simp only [Act.put, List.setIfInBounds_toArray, List.set_cons_zero, List.set_cons_succ]; rfl) ?_))
                    refine wpAnyL_take (i := 10) (v := ?_) rfl (by kernel_rfl) (fun _ _ _ h => h) (Or.inl ⟨by rfl, ?_⟩) (by assumption) ?_; rotate_left; (focus (intro w hSw; skip; go_simp; (try with_reducible rfl))); (try (refine wpAnyL_norm (by simp only [Act.put, List.setIfInBounds_toArray, List.set_cons_zero, List.set_cons_succ]; rfl) ?_))
                    refine wpAnyL_take (i := 11) (v := ?_) rfl (by kernel_rfl) (fun _ _ _ h => h) (Or.inl ⟨by rfl, ?_⟩) (by assumption) ?_; rotate_left; (focus (intro w hSw; skip; go_simp; (try with_reducible rfl))); (try (refine wpAnyL_norm (by simp only [Act.put, List.setIfInBounds_toArray, List.set_cons_zero, List.set_cons_succ]; rfl) ?_))
                    refine wpAnyL_take (i := 12) (v := ?_) rfl (by kernel_rfl) (fun _ _ _ h => h) (Or.inl ⟨by rfl, ?_⟩) (by assumption) ?_; rotate_left; (focus (intro w hSw; skip; go_simp; (try with_reducible rfl))); (try (refine wpAnyL_norm (by simp only [Act.put, List.setIfInBounds_toArray, List.set_cons_zero, List.set_cons_succ]; rfl) ?_))
                    refine wpAnyL_take (i := 13) (v := ?_) rfl (by kernel_rfl) (fun _ _ _ h => h) (Or.inl ⟨by rfl, ?_⟩) (by assumption) ?_; rotate_left; (focus (intro w hSw; skip; go_simp; (try with_reducible rfl))); (try (refine wpAnyL_norm (by simp only [Act.put, List.setIfInBounds_toArray, List.set_cons_zero, List.set_cons_succ]; rfl) ?_))
                    refine wpAnyL_take (i := 14) (v := ?_) rfl (by kernel_rfl) (fun _ _ _ h => h) (Or.inl ⟨by rfl, ?_⟩) (by assumption) ?_; rotate_left; (focus (intro w hSw; skip; go_simp; (try with_reducible rfl))); (try (refine wpAnyL_norm (by simp only [Act.put, List.setIfInBounds_toArray, List.set_cons_zero, List.set_cons_succ]; rfl) ?_))
                    refine wpAnyL_take (i := 15) (v := ?_) rfl (by kernel_rfl) (fun _ _ _ h => h) (Or.inl ⟨by rfl, ?_⟩) (by assumption) ?_; rotate_left; (focus (intro w hSw; skip; go_simp; (try with_reducible rfl))); (try (refine wpAnyL_norm (by simp only [Act.put, List.setIfInBounds_toArray, List.set_cons_zero, List.set_cons_succ]; rfl) ?_))
                    refine wpAnyL_take (i := 16) (v := undef) rfl (by kernel_rfl) (fun _ _ _ h => h) (Or.inr ⟨by rfl, rfl⟩) (by assumption) ?_; (try (refine wpAnyL_norm (by simp only [Act.put, List.setIfInBounds_toArray, List.set_cons_zero, List.set_cons_succ]; rfl) ?_))
                    refine wpAnyL_take (i := 17) (v := undef) rfl (by kernel_rfl) (fun _ _ _ h => h) (Or.inr ⟨by rfl, rfl⟩) (by assumption) ?_; (try (refine wpAnyL_norm (by simp only [Act.put, List.setIfInBounds_toArray, List.set_cons_zero, List.set_cons_succ]; rfl) ?_))
                    refine wpAnyL_take (i := 18) (v := undef) rfl (by kernel_rfl) (fun _ _ _ h => h) (Or.inr ⟨by rfl, rfl⟩) (by assumption) ?_; (try (refine wpAnyL_norm (by simp only [Act.put, List.setIfInBounds_toArray, List.set_cons_zero, List.set_cons_succ]; rfl) ?_))
                    refine wpAnyL_take (i := 19) (v := undef) rfl (by kernel_rfl) (fun _ _ _ h => h) (Or.inr ⟨by rfl, rfl⟩) (by assumption) ?_; (try (refine wpAnyL_norm (by simp only [Act.put, List.setIfInBounds_toArray, List.set_cons_zero, List.set_cons_succ]; rfl) ?_))
                    refine wpAnyL_take (i := 20) (v := undef) rfl (by kernel_rfl) (fun _ _ _ h => h) (Or.inr ⟨by rfl, rfl⟩) (by assumption) ?_; (try (refine wpAnyL_norm (by simp only [Act.put, List.setIfInBounds_toArray, List.set_cons_zero, List.set_cons_succ]; rfl) ?_))
                    refine wpAnyL_take (i := 21) (v := undef) rfl (by kernel_rfl) (fun _ _ _ h => h) (Or.inr ⟨by rfl, rfl⟩) (by assumption) ?_; (try (refine wpAnyL_norm (by simp only [Act.put, List.setIfInBounds_toArray, List.set_cons_zero, List.set_cons_succ]; rfl) ?_))
                    refine wpAnyL_take (i := 22) (v := undef) rfl (by kernel_rfl) (fun _ _ _ h => h) (Or.inr ⟨by rfl, rfl⟩) (by assumption) ?_; (try (refine wpAnyL_norm (by simp only [Act.put, List.setIfInBounds_toArray, List.set_cons_zero, List.set_cons_succ]; rfl) ?_))
                    refine wpAnyL_take (i := 23) (v := ?_) rfl (by kernel_rfl) (fun _ _ _ h => h) (Or.inl ⟨by rfl, ?_⟩) (by assumption) ?_; rotate_left; (focus (intro w hSw; skip; go_simp; (try with_reducible rfl))); (try (refine wpAnyL_norm (by simp only [Act.put, List.setIfInBounds_toArray, List.set_cons_zero, List.set_cons_succ]; rfl) ?_))
                    refine wpAnyL_take (i := 24) (v := ?_) rfl (by kernel_rfl) (fun _ _ _ h => h) (Or.inl ⟨by rfl, ?_⟩) (by assumption) ?_; rotate_left; (focus (intro w hSw; skip; go_simp; (try with_reducible rfl))); (try (refine wpAnyL_norm (by simp only [Act.put, List.setIfInBounds_toArray, List.set_cons_zero, List.set_cons_succ]; rfl) ?_))
                    refine wpAnyL_done (by kernel_rfl) ?_ _
                    have F6 := Lib.hid (FJ.out.trans0 hHeld)
                    clear hHeld
                    go_wp2_with fail
                    go_roundw
                    case rel => exact ⟨k + 1, g, s, by omega, by go_num, HFG.out, fun z => (HSM.out z).imp id (fun ⟨j, hj, h⟩ => ⟨j, by omega, h⟩), HY.out.fr F6.out, OD.out.fr F6.out, OQ.out.fr F6.out⟩
                    case measure => simp [intOf]; omega
                  | false =>
                    have hfx : f x = 0 := by
                      have h2 := of_decide_eq_false HM.out
                      have h3 := HFIT.out.le x hx2
                      rw [pls_mem] at h2
                      omega
                    have hgx0 := HGX.out.trans hfx
                    have CF := Lib.hid fun W s (h : Yw w1 W y (once.ms ep sb g) s) => (show Calls Try.prog 9 #[.pointer (some ⟨y, 0, none⟩), .agg #[.int .u32 (X : Int), .int .u32 16]] W fun e w' => e = .returned (.bool true) ∧ ∃ s', Turn w1 W y s (once.ms ep sb (setN g x 1)) w' s' from by
                      have h := free_m h X 16 (by have := HXX.out; omega) (by omega)
                      rw [← HXX.out, frB_ms ep sb g HFG.out x hx2, hgx0, (free_ms ep sb g HFG.out x hx2 hgx0).1, HXX.out] at h
                      exact h)
                    have HFX := Lib.hid (free_ms ep sb g HFG.out x hx2 hgx0).2
                    have K0 := Lib.hid (((FJ.out.drew).cell (a := ⟨g0, k * 2 + 0, none⟩) HG0.out (by simp)).trans Q0.out)
                    have K1 := Lib.hid (((FJ.out.drew).cell (a := ⟨g0, k * 2 + 1, none⟩) HG0.out (by simp)).trans Q1.out)
                    have FD := Lib.hid FJ.out.drew
                    clear hfx hgx0
                    go_wp2_with fail
                    refine wp_region_L (fun W => W.cell? ⟨g0, k * 2 + 0, none⟩ = some (.int .u32 (X : Int)) ∧ W.cell? ⟨g0, k * 2 + 1, none⟩ = some (.int .u32 16)) [] (by kernel_rfl) ⟨K0.out, K1.out⟩ (fun hHeld => ?_)
                    refine wpAnyL_take (i := 0) (v := ?_) rfl (by kernel_rfl) (fun _ _ _ h => h) (Or.inl ⟨by rfl, ?_⟩) (by assumption) ?_; rotate_left; (focus (intro w hSw; skip; go_simp; (try with_reducible rfl))); (try (refine wpAnyL_norm (by simp only [Act.put, List.setIfInBounds_toArray, List.set_cons_zero, List.set_cons_succ]; rfl) ?_))
                    refine wpAnyL_take (i := 1) (v := ?_) rfl (by kernel_rfl) (fun _ _ _ h => h) (Or.inl ⟨by rfl, ?_⟩) (by assumption) ?_; rotate_left; (focus (intro w hSw; skip; go_simp; (try with_reducible rfl))); (try (refine wpAnyL_norm (by simp only [Act.put, List.setIfInBounds_toArray, List.set_cons_zero, List.set_cons_succ]; rfl) ?_))
                    refine wpAnyL_take (i := 2) (v := undef) rfl (by kernel_rfl) (fun _ _ _ h => h) (Or.inr ⟨by rfl, rfl⟩) (by assumption) ?_; (try (refine wpAnyL_norm (by simp only [Act.put, List.setIfInBounds_toArray, List.set_cons_zero, List.set_cons_succ]; rfl) ?_))
                    refine wpAnyL_take (i := 3) (v := undef) rfl (by kernel_rfl) (fun _ _ _ h => h) (Or.inr ⟨by rfl, rfl⟩) (by assumption) ?_; (try (refine wpAnyL_norm (by simp only [Act.put, List.setIfInBounds_toArray, List.set_cons_zero, List.set_cons_succ]; rfl) ?_))
                    refine wpAnyL_take (i := 4) (v := undef) rfl (by kernel_rfl) (fun _ _ _ h => h) (Or.inr ⟨by rfl, rfl⟩) (by assumption) ?_; (try (refine wpAnyL_norm (by simp only [Act.put, List.setIfInBounds_toArray, List.set_cons_zero, List.set_cons_succ]; rfl) ?_))
                    refine wpAnyL_take (i := 5) (v := undef) rfl (by kernel_rfl) (fun _ _ _ h => h) (Or.inr ⟨by rfl, rfl⟩) (by assumption) ?_; (try (refine wpAnyL_norm (by simp only [Act.put, List.setIfInBounds_toArray, List.set_cons_zero, List.set_cons_succ]; rfl) ?_))
                    refine wpAnyL_take (i := 6) (v := undef) rfl (by kernel_rfl) (fun _ _ _ h => h) (Or.inr ⟨by rfl, rfl⟩) (by assumption) ?_; (try (refine wpAnyL_norm (by simp only [Act.put, List.setIfInBounds_toArray, List.set_cons_zero, List.set_cons_succ]; rfl) ?_))
                    refine wpAnyL_take (i := 7) (v := undef) rfl (by kernel_rfl) (fun _ _ _ h => h) (Or.inr ⟨by rfl, rfl⟩) (by assumption) ?_; (try (refine wpAnyL_norm (by simp only [Act.put, List.setIfInBounds_toArray, List.set_cons_zero, List.set_cons_succ]; rfl) ?_))
                    refine wpAnyL_take (i := 8) (v := undef) rfl (by kernel_rfl) (fun _ _ _ h => h) (Or.inr ⟨by rfl, rfl⟩) (by assumption) ?_; (try (refine wpAnyL_norm (by simp only [Act.put, List.setIfInBounds_toArray, List.set_cons_zero, List.set_cons_succ]; rfl) ?_))
                    refine wpAnyL_take (i := 9) (v := undef) rfl (by kernel_rfl) (fun _ _ _ h => h) (Or.inr ⟨by rfl, rfl⟩) (by assumption) ?_; (try (refine wpAnyL_norm (by simp only [Act.put, List.setIfInBounds_toArray, List.set_cons_zero, List.set_cons_succ]; rfl) ?_))
                    refine wpAnyL_take (i := 10) (v := undef) rfl (by kernel_rfl) (fun _ _ _ h => h) (Or.inr ⟨by rfl, rfl⟩) (by assumption) ?_; (try (refine wpAnyL_norm (by simp only [Act.put, List.setIfInBounds_toArray, List.set_cons_zero, List.set_cons_succ]; rfl) ?_))
                    refine wpAnyL_take (i := 11) (v := ?_) rfl (by kernel_rfl) (fun _ _ _ h => h) (Or.inl ⟨by rfl, ?_⟩) (by assumption) ?_; rotate_left; (focus (intro w hSw; skip; go_simp; (try with_reducible rfl))); (try (refine wpAnyL_norm (by simp only [Act.put, List.setIfInBounds_toArray, List.set_cons_zero, List.set_cons_succ]; rfl) ?_))
                    refine wpAnyL_take (i := 12) (v := ?_) rfl (by kernel_rfl) (fun _ _ _ h => h) (Or.inl ⟨by rfl, ?_⟩) (by assumption) ?_; rotate_left; (focus (intro w hSw; skip; go_simp; (try with_reducible rfl))); (try (refine wpAnyL_norm (by simp only [Act.put, List.setIfInBounds_toArray, List.set_cons_zero, List.set_cons_succ]; rfl) ?_))
                    refine wpAnyL_take (i := 13) (v := ?_) rfl (by kernel_rfl) (fun _ _ _ h => h) (Or.inl ⟨by rfl, ?_⟩) (by assumption) ?_; rotate_left; (focus (intro w hSw; skip; go_simp; (try with_reducible rfl))); (try (refine wpAnyL_norm (by simp only [Act.put, List.setIfInBounds_toArray, List.set_cons_zero, List.set_cons_succ]; rfl) ?_))
                    refine wpAnyL_take (i := 14) (v := ?_) rfl (by kernel_rfl) (fun _ _ _ h => h) (Or.inl ⟨by rfl, ?_⟩) (by assumption) ?_; rotate_left; (focus (intro w hSw; skip; go_simp; (try with_reducible rfl))); (try (refine wpAnyL_norm (by simp only [Act.put, List.setIfInBounds_toArray, List.set_cons_zero, List.set_cons_succ]; rfl) ?_))
                    refine wpAnyL_take (i := 15) (v := ?_) rfl (by kernel_rfl) (fun _ _ _ h => h) (Or.inl ⟨by rfl, ?_⟩) (by assumption) ?_; rotate_left; (focus (intro w hSw; skip; go_simp; (try with_reducible rfl))); (try (refine wpAnyL_norm (by simp only [Act.put, List.setIfInBounds_toArray, List.set_cons_zero, List.set_cons_succ]; rfl) ?_))
                    refine wpAnyL_take (i := 16) (v := ?_) rfl (by kernel_rfl) (fun _ _ _ h => h) (Or.inl ⟨by rfl, ?_⟩) (by assumption) ?_; rotate_left; (focus (intro w hSw; skip; go_simp; (try with_reducible rfl))); (try (refine wpAnyL_norm (by simp only [Act.put, List.setIfInBounds_toArray, List.set_cons_zero, List.set_cons_succ]; rfl) ?_))
                    refine wpAnyL_take (i := 17) (v := ?_) rfl (by kernel_rfl) (fun _ _ _ h => h) (Or.inl ⟨by rfl, ?_⟩) (by assumption) ?_; rotate_left; (focus (intro w hSw; skip; go_simp; (try with_reducible rfl))); (try (refine wpAnyL_norm (by simp only [Act.put, List.setIfInBounds_toArray, List.set_cons_zero, List.set_cons_succ]; rfl) ?_))
                    refine wpAnyL_take (i := 18) (v := ?_) rfl (by kernel_rfl) (fun _ _ _ h => h) (Or.inl ⟨by rfl, ?_⟩) (by assumption) ?_; rotate_left; (focus (intro w hSw; skip; go_simp; (try with_reducible rfl))); (try (refine wpAnyL_norm (by simp only [Act.put, List.setIfInBounds_toArray, List.set_cons_zero, List.set_cons_succ]; rfl) ?_))
                    refine wpAnyL_take (i := 19) (v := ?_) rfl (by kernel_rfl) (fun _ _ _ h => h) (Or.inl ⟨by rfl, ?_⟩) (by assumption) ?_; rotate_left; (focus (intro w hSw; skip; go_simp; (try with_reducible rfl))); (try (refine wpAnyL_norm (by simp only [Act.put, List.setIfInBounds_toArray, List.set_cons_zero, List.set_cons_succ]; rfl) ?_))
                    refine wpAnyL_take (i := 20) rfl (by kernel_rfl) (fun _ _ _ h => h) (yields_load_at 30 (.tmp 154) rfl ⟨g0, k * 2, none⟩ rfl [.int .u32 X, .int .u32 16] _ (fun W h jj v hv => by
                        rw [Go.WideShapes.add_plain]
                        match jj, hv with
                        | 0, hv => exact (h.1).trans hv
                        | 1, hv => exact (h.2).trans hv) Try.underlying30 rfl infoRgS rfl) (by assumption) ?_; (try (refine wpAnyL_norm (by simp only [Act.put, List.setIfInBounds_toArray, List.set_cons_zero, List.set_cons_succ]; rfl) ?_))
                    refine wpAnyL_ready (rs := [21]) (by kernel_rfl) (by simp) ?_; refine AllReadyL.cons rfl (fun K hK => ?_) AllReadyL.nil
                    go_simp
                    refine (CF.out _ _ (HY.out.fr FD.out)).mono ?_
                    rintro e w5 ⟨rfl, s5, h5⟩
                    have hlt : g0 < wq.drew.heap.size := by have := FD.out.size; have := HG0.out; omega
                    have hS5 := And.intro ((h5.f.cell (a := ⟨g0, k * 2 + 0, none⟩) hlt (OD.out.nf g0 rfl)).trans K0.out) ((h5.f.cell (a := ⟨g0, k * 2 + 1, none⟩) hlt (OD.out.nf g0 rfl)).trans K1.out)
                    have Y5 := Lib.hid h5.yw
                    have OD5 := Lib.hid ((OD.out.fr FD.out).turn h5)
                    have OQ5 := Lib.hid ((OQ.out.fr FD.out).turn h5)
                    refine hK.out _ _ (fun _ => hS5) (fun hHeld' => ?_); have hHeld := hHeld' (by decide); clear hHeld' hK K; (try (refine wpAnyL_norm (by simp only [Act.put, List.setIfInBounds_toArray, List.set_cons_zero, List.set_cons_succ]; rfl) ?_))
                    refine wpAnyL_take (i := 22) (v := ?_) rfl (by kernel_rfl) (fun _ _ _ h => h) (Or.inl ⟨by rfl, ?_⟩) (by assumption) ?_; rotate_left; (focus (intro w hSw; skip; go_simp; (try with_reducible rfl))); (try (refine wpAnyL_norm (by simp only [Act.put, List.setIfInBounds_toArray, List.set_cons_zero, List.set_cons_succ]; rfl) ?_))
                    refine wpAnyL_take (i := 23) (v := ?_) rfl (by kernel_rfl) (fun _ _ _ h => h) (Or.inl ⟨by rfl, ?_⟩) (by assumption) ?_; rotate_left; (focus (intro w hSw; skip; go_simp; (try with_reducible rfl))); (try (refine wpAnyL_norm (by simp only [Act.put, List.setIfInBounds_toArray, List.set_cons_zero, List.set_cons_succ]; rfl) ?_))
                    refine wpAnyL_take (i := 24) (v := ?_) rfl (by kernel_rfl) (fun _ _ _ h => h) (Or.inl ⟨by rfl, ?_⟩) (by assumption) ?_; rotate_left; (focus (intro w hSw; skip; go_simp; (try with_reducible rfl))); (try (refine wpAnyL_norm (by simp only [Act.put, List.setIfInBounds_toArray, List.set_cons_zero, List.set_cons_succ]; rfl) ?_))
                    refine wpAnyL_done (by kernel_rfl) ?_ _
                    go_wp2_with fail
                    go_roundw
                    case rel => exact ⟨k + 1, setN g x 1, s5, by omega, by go_num, HFX.out, fun z => by
                      by_cases e : z = x
                      · exact .inr ⟨k, by omega, by rw [e]; exact HX.out⟩
                      · rw [setN_ne g e]; exact (HSM.out z).imp id (fun ⟨j, hj, h⟩ => ⟨j, by omega, h⟩), Y5.out, OD5.out, OQ5.out⟩
                    case measure => simp [intOf]; omega
            · obtain rfl : k = N0 := by omega
              go_wp2_with fail
              go_ret
              exact ⟨rfl, F1.out.trans0 HY.out.f⟩
theorem walk (a1 : Option Addr) (len1 cap1 : Nat) (z1 : List Int) (a2 : Option Addr) (len2 cap2 : Nat) (z2 : List Int) (w : World) (w1 : Ints .u8 w a1 len1 z1 ∧ len1 ≤ cap1 ∧ cap1 ≤ maxLen) (w2 : Ints .u8 w a2 len2 z2 ∧ len2 ≤ cap2 ∧ cap2 ≤ maxLen) :
    Calls Try.prog 4 #[.slice a1 len1 cap1, .slice a2 len2 cap2] w fun e w' => e = .returned (.bool true) ∧ Fr [] w w' := by
  obtain ⟨b1, o1, f1, h1⟩ := in8_of w1.1
  obtain ⟨b2, o2, f2, h2⟩ := in8_of w2.1
  exact walk0 a1 b1 o1 len1 cap1 f1 a2 b2 o2 len2 cap2 f2 w h1 h2 w1.2.1 w1.2.2 w2.2.1 w2.2.2
theorem laidOut : laidOutB Try.prog = true := by kernel_rfl
set_option maxRecDepth 100000 in
theorem lifted (os : Os) (started : os.Started) (H : Type) (enc : TypeId × Value → H) :
    ReturnsInHanded {} Try.checked os 4 .any (Rows.quarantineDrainsSpec.pre6 enc Try.prog Try.f4 Rows.quarantineDrainsRow.domain false) (Rows.quarantineDrainsSpec.post enc Try.prog Try.f4 false true false false) := by
  refine returnsInHanded_of_change (C := Try.checked) own started (by kernel_rfl) Try.func4
    (ChangeSpec.witness6 (enc := enc) (C := Try.checked) false ⟨#[], #[.slice none 0 0, .slice none 0 0], []⟩ 8 (by kernel_rfl) (by kernel_rfl) (by kernel_rfl) (by kernel_rfl)) ?_
  intro W base args ds gs before hval0 hW hcnd _
  have hval : ∀ (j : Nat) t v, Try.f4.params[j]? = some t → args[j]? = some v → Value.okWide Try.prog W .any base t v := hval0
  have hW' := hW
  obtain ⟨p, q, hA0, hV, rfl, hfz, hnd⟩ := hW
  have hA : DataW.TrodAll enc Try.prog W 0 (fun _ => true) true Try.f4.params.toList args.toList ds p := hA0
  rw [Try.params4] at hA hval
  obtain ⟨v0, vs0, d0, ds0, p0, q0, hargs, rfl, rfl, h0, r0⟩ := trodAll_cons hA
  obtain ⟨v1, vs1, d1, ds1, p1, q1, rfl, rfl, rfl, h1, r1⟩ := trodAll_cons r0
  obtain ⟨rfl, rfl, rfl⟩ := trodAll_nil r1
  obtain rfl : args = #[v0, v1] := by cases args; simp_all
  obtain ⟨rfl, rfl⟩ := trodVars_none hV
  obtain ⟨a0, len0, cap0, rfl⟩ := okWide_slice Try.underlying22 (hval 0 22 v0 rfl rfl)
  have k0 := h0
  have lt0 : ∀ x ∈ p0, x.block < W.heap.size := by obtain ⟨m, hm⟩ := k0; exact DataW.trod_lt m _ _ _ hm
  obtain ⟨z0, w0⟩ : ∃ zs, Ints .u8 W a0 len0 zs ∧ len0 ≤ cap0 ∧ cap0 ≤ maxLen := by
    obtain ⟨fuel, hf⟩ := h0
    rcases open_ints Try.underlying22 Try.underlying5 (by kernel_rfl) hf with ⟨hcs, _⟩ | ⟨x, l, c, zs, hcs, _, hl, hm, hz, _, hcell, hwz⟩
    · simp [Value.cells] at hcs
      obtain ⟨rfl, rfl, rfl⟩ := hcs
      exact ⟨[], Ints.nil _, Nat.le_refl _, Nat.zero_le _⟩
    · simp [Value.cells] at hcs
      obtain ⟨rfl, rfl, rfl⟩ := hcs
      exact ⟨zs.take len0, Ints.of hl hm (by simpa using hz) hcell hwz, hl, hm⟩
  obtain ⟨a1, len1, cap1, rfl⟩ := okWide_slice Try.underlying22 (hval 1 22 v1 rfl rfl)
  have k1 := h1
  have lt1 : ∀ x ∈ p1, x.block < W.heap.size := by obtain ⟨m, hm⟩ := k1; exact DataW.trod_lt m _ _ _ hm
  obtain ⟨z1, w1⟩ : ∃ zs, Ints .u8 W a1 len1 zs ∧ len1 ≤ cap1 ∧ cap1 ≤ maxLen := by
    obtain ⟨fuel, hf⟩ := h1
    rcases open_ints Try.underlying22 Try.underlying5 (by kernel_rfl) hf with ⟨hcs, _⟩ | ⟨x, l, c, zs, hcs, _, hl, hm, hz, _, hcell, hwz⟩
    · simp [Value.cells] at hcs
      obtain ⟨rfl, rfl, rfl⟩ := hcs
      exact ⟨[], Ints.nil _, Nat.le_refl _, Nat.zero_le _⟩
    · simp [Value.cells] at hcs
      obtain ⟨rfl, rfl, rfl⟩ := hcs
      exact ⟨zs.take len1, Ints.of hl hm (by simpa using hz) hcell hwz, hl, hm⟩
  clear hA0 hval0
  refine (walk a0 len0 cap0 z0 a1 len1 cap1 z1 W w0 w1).mono fun e W' ⟨he, hg⟩ => ?_
  subst he
  have bel := hg.below
  exact ⟨_, rfl, _, _, _, [], _, [], hW', trodAll_mk1 (shut_bool Try.underlying4 _), (trodAll_cons_mk (Below.trod laidOut (by kernel_rfl) (of_decide_eq_true (by kernel_rfl)) k0 bel lt0) (trodAll_cons_mk (Below.trod laidOut (by kernel_rfl) (of_decide_eq_true (by kernel_rfl)) k1 bel lt1) trodAll_mk0)), rfl, bel.frame _, fun h => by cases h⟩
theorem over : Rows.quarantineDrainsRow.holds Try.pinned (OpenSpec.ofChange Rows.quarantineDrainsSpec) :=
  OpenClaim.holds_of_wide 4 Try.f4 rfl rfl rfl rfl rfl rfl rfl ⟨rfl, rfl, rfl, rfl, rfl⟩ rfl rfl rfl rfl rfl (by kernel_rfl) Try.func4 (by kernel_rfl)
    (of_decide_eq_true (by kernel_rfl)) (by unfold Func.isWrapper; first | (rw [if_pos (by decide +kernel)]; kernel_rfl) | (rw [if_neg (by decide +kernel)]; exact ⟨rfl, rfl⟩))
    (fun os started H enc _ => lifted os started H enc)
/-- The statement, proved. -/
theorem proved : Rows.QuarantineDrainsSaid :=
  over
end quarantineDrains
end Go.Proofs.Ytflhpgfnffmimaa
