/-
  CompartScan: of what lies on a stack just the stale ones lose being valid. No condition.
-/





import Derived.Test.YtdfefnajhnlpdaaWorks
import Derived.Test.YtdfefnajhnlpdaaSscan
import Derived.Test.YtdfefnajhnlpdaaAdd
set_option linter.unusedVariables false
namespace Go.Proofs.Ytdfefnajhnlpdaa
open Go.ChangeShapes Go.WideShapes Go.ChangeAt Go.RowKit
namespace compartScan
theorem get_u16 (s k : Nat) (h : s < 65536) : (bits .and .u16 ((s : Int) / 2 ^ k) 1 == 1) = s.testBit k := by
  have h1 : ((s : Int) / 2 ^ k) = ((s / 2 ^ k : Nat) : Int) := by simp
  have h2 : s / 2 ^ k < 65536 := Nat.lt_of_le_of_lt (Nat.div_le_self _ _) h
  rw [h1, show (1 : Int) = ((1 : Nat) : Int) by rfl, u16_and_nat _ _ h2 (by omega), Nat.testBit, Nat.shiftRight_eq_div_pow, Nat.and_comm 1]
  rw [show ∀ y : Nat, y &&& 1 = y % 2 from fun y => Nat.and_two_pow_sub_one_eq_mod y 1]
  rcases Nat.mod_two_eq_zero_or_one (s / 2 ^ k) with e | e <;> rw [e] <;> rfl
/-- The granules painted while k bits are seen. -/
def pK (n k : Nat) : Nat → Bool := fun j => decide (128 ≤ j) && (decide (j < 128 + k) && n.testBit (j - 128))
theorem pK_zero (n : Nat) : pK n 0 = fun _ => false := by
  funext j
  unfold pK
  by_cases h : 128 ≤ j
  · have : ¬ j < 128 + 0 := by omega
    simp [this]
  · simp [h]
theorem pK_no (n k : Nat) (h : n.testBit k = false) : pK n (k + 1) = pK n k := by
  funext j
  unfold pK
  by_cases e : j = 128 + k
  · subst e; simp [h]
  · have : (j < 128 + (k + 1)) ↔ (j < 128 + k) := by omega
    simp [this]
theorem pK_yes (n k : Nat) (hk : k < 16) (h : n.testBit k = true) : newC 256 (pK n k) (2048 + 16 * (k : Int)) 16 true = pK n (k + 1) := by
  have h1 : (2048 + 16 * (k : Int)) = (16 * (128 + k) : Nat) := by omega
  have h2 : (16 : Int) = (16 * 1 : Nat) := rfl
  have ho : okP (pK n k) (128 + k) 1 true = true := okP_yes (fun j j1 j2 => by
    have : j = 128 + k := by omega
    subst this
    unfold pK
    simp)
  have hw := (@okC_nat 256 (pK n k) (128 + k) 1 true (by omega) (by omega)).2
  unfold chgF at hw
  rw [ho, if_pos rfl] at hw
  rw [h1]
  conv => lhs; arg 4; rw [h2]
  rw [hw]
  funext j
  unfold setP pK
  by_cases e : j = 128 + k
  · subst e; simp [h]
  · rw [if_neg (by omega)]
    have : (j < 128 + (k + 1)) ↔ (j < 128 + k) := by omega
    simp [this]
theorem pK_at (n k : Nat) (hk : k < 16) : hasP 256 (pK n 16) ((16 * (128 + k) : Nat) : Int) = n.testBit k := by
  unfold hasP
  rw [show (((16 * (128 + k) : Nat) : Int) / 16) = ((128 + k : Nat) : Int) by omega, inR_nat (128 + k) 256 (by omega), Int.toNat_natCast]
  unfold pK
  simp; omega
def xC : Cp := (madeC 0 4 0).addr 4
theorem xC_is : xC.base = 0 ∧ xC.v = true ∧ xC.cur = 4 := by decide +kernel
theorem yC_is : (madeC 2048 1 0).base = ((16 * (128 + 0) : Nat) : Int) ∧ (madeC 2112 1 0).base = ((16 * (128 + 4) : Nat) : Int) := by decide +kernel
def cut (c : Cp) (b : Bool) : Cp := if b then c.off else c
theorem scanned (n : Nat) : ∃ h : Int → Bool, h = hasP 256 (pK n 16) ∧ sums h [xC, madeC 2048 1 0, madeC 2112 1 0] = (n.testBit 0).toNat + (n.testBit 4).toNat ∧ [xC, madeC 2048 1 0, madeC 2112 1 0].map (cln h) = [xC, cut (madeC 2048 1 0) (n.testBit 0), cut (madeC 2112 1 0) (n.testBit 4)] := by
  have e0 : hasP 256 (pK n 16) 0 = false := by unfold hasP pK; simp
  have s0 : stB (hasP 256 (pK n 16)) xC = false := by unfold stB; rw [xC_is.1, e0, Bool.and_false]
  have s1 : stB (hasP 256 (pK n 16)) (madeC 2048 1 0) = n.testBit 0 := by unfold stB; rw [yC_is.1, pK_at n 0 (by omega)]; exact Bool.true_and _
  have s2 : stB (hasP 256 (pK n 16)) (madeC 2112 1 0) = n.testBit 4 := by unfold stB; rw [yC_is.2, pK_at n 4 (by omega)]; exact Bool.true_and _
  refine ⟨_, rfl, ?_, ?_⟩
  · unfold sums sOne
    simp only [List.map_cons, List.map_nil, s0, s1, s2]
    cases n.testBit 0 <;> cases n.testBit 4 <;> rfl
  · unfold cln cut
    simp only [List.map_cons, List.map_nil, s0, s1, s2]
    cases n.testBit 0 <;> cases n.testBit 4 <;> rfl
set_option maxHeartbeats 4000000 in
set_option maxRecDepth 100000 in
theorem walk_n (n : Nat) (hn : n < 65536) (w : World) :
    Calls Try.prog 6 #[.int .u16 n] w fun e w' => e = .returned (.bool true) ∧ Fr [] w w' := by
  have hz := fun w => zeroFrame w
  have hb := fun w => builtFrame w
  have ZI := Lib.hid (frInfo zf_len)
  have ZA := Lib.hid (cat_all zf)
  obtain ⟨Z, hZ⟩ : ∃ Z, (cat zf).toArray = Z := ⟨_, rfl⟩
  rw [hZ] at hz hb ZI ZA
  have HZ := Lib.hid hZ
  clear hZ
  obtain ⟨p16, p14, p15, pi⟩ := frL_at
  obtain ⟨h, hh, hsum, hmap⟩ := scanned n
  have HS0 := Lib.hid hsum
  have HM0 := Lib.hid hmap
  have HH := Lib.hid hh
  have HB := Lib.hid fun k => get_u16 n k hn
  obtain ⟨a, ha⟩ : ∃ c, madeC 512 132 7 = c := ⟨_, rfl⟩
  obtain ⟨b, hb'⟩ : ∃ c, madeC 1024 129 7 = c := ⟨_, rfl⟩
  have ht := pair_ok 7 (by omega) (by omega)
  have CP := Lib.hid fun W => lpair_any W 7
  rw [ha, hb'] at ht CP
  have HT := Lib.hid ht
  have CFR := Lib.hid fun W => lframe_any W
  have P16 := Lib.hid p16
  have P14 := Lib.hid p14
  have P15 := Lib.hid p15
  clear p16 p14 p15 pi ha hb' ht hh hsum hmap
  go_enter Try.func6, Try.ntmps6
  go_wp2_with fail
  refine (works_any _).mono ?_
  rintro e w1 ⟨rfl, hf1⟩
  have F1 := Lib.hid hf1
  clear hf1
  go_wp2_with fail
  refine (ptnew_any 256 _ (by omega)).mono ?_
  rintro e w2 ⟨pp, p, g, rfl, h2, hpp, hp, hg, hf2⟩
  have hw1 := F1.out.size
  have P2 := Lib.hid h2
  have F2 := Lib.hid (F1.out.trans0 hf2)
  have hg2 : w.heap.size ≤ g := by omega
  clear h2 hf2 F1
  go_wp2_with fail
  go_loopw [4] (fun i wr => ∃ k : Nat, k ≤ 16 ∧ i = .int .i64 k ∧ Pt wr pp p g 256 (pK n k) ∧ Fr [] w wr) (fun i _ => 16 - (intOf i).toNat)
  case atStart => exact ⟨0, by omega, rfl, by rw [pK_zero]; exact P2.out, F2.out⟩
  case round =>
    clear P2 F2
    obtain ⟨k, hk, rfl, h0, hf⟩ := hrel
    have K0 := Lib.hid h0
    have KF := Lib.hid hf
    have hl0 := h0.lt
    clear h0 hf
    by_cases hkn : k < 16
    · have hw16 : IntKind.u32.wrap (k : Int) = (k : Int) := by simp [IntKind.wrap, IntKind.signed, IntKind.bits]; omega
      have hbk := HB.out k
      cases hb : n.testBit k
      · rw [hb] at hbk
        go_wp2_with fail
        go_roundw
        case rel => exact ⟨k + 1, by omega, by go_num, by rw [pK_no n k hb]; exact K0.out, KF.out⟩
        case measure => simp [intOf]; omega
      · rw [hb] at hbk
        have HBK := Lib.hid hb
        clear hb
        go_wp2_with fail
        have CA := ptadd_any wr pp p g 256 (pK n k) K0.out (2048 + 16 * (k : Int)) 16 (by omega) (by omega) (by omega) (by omega)
        rw [pK_yes n k hkn HBK.out] at CA
        refine CA.mono ?_
        rintro e w3 ⟨rfl, h3, hf3⟩
        have K3 := Lib.hid h3
        have KF3 := Lib.hid (KF.out.trans hf3 (by simp <;> omega))
        clear h3 hf3 CA
        go_wp2_with fail
        go_roundw
        case rel => exact ⟨k + 1, by omega, by go_num, K3.out, KF3.out⟩
        case measure => simp [intOf]; omega
    · obtain rfl : k = 16 := by omega
      obtain ⟨wo, rfl⟩ : ∃ wo : World, wo = wr := ⟨_, rfl⟩
      have HS := Lib.hid (Hs.of K0.out)
      rw [← HH.out] at HS
      obtain ⟨b0, hb0⟩ : ∃ b, n.testBit 0 = b := ⟨_, rfl⟩
      obtain ⟨b4, hb4⟩ : ∃ b, n.testBit 4 = b := ⟨_, rfl⟩
      have B0 : (bits .and .u16 (n : Int) 1 == 1) = b0 := by have h := HB.out 0; rw [hb0] at h; rw [← h]; simp
      have B4 : (bits .and .u16 ((n : Int) / 16) 1 == 1) = b4 := by have h := HB.out 4; rw [hb4] at h; rw [← h]; simp
      have HB0 := Lib.hid B0
      have HB4 := Lib.hid B4
      rw [hb0, hb4] at HS0 HM0
      have hww : w.heap.size ≤ wo.heap.size := KF.out.size
      clear hl0 hb0 hb4 K0 B0 B4
      go_wp2_with fail
      refine (snew_any _).mono ?_
      rintro e w1 ⟨sp, rfl, hs1, hsp, hf1⟩
      have S1 := Lib.hid hs1
      have F1 := Lib.hid (KF.out.trans0 hf1)
      have HS1 := Lib.hid (HS.out.fr hf1 (by simp))
      have hwo := hf1.size
      clear hs1 hf1 HS KF
      go_wp2_with fail
      refine (CP.out _).mono ?_
      rintro e w2 ⟨rfl, hf2⟩
      have S2 := Lib.hid (S1.out.fr0 hf2)
      have F2 := Lib.hid (F1.out.trans0 hf2)
      have HS2 := Lib.hid (HS1.out.fr hf2 (by simp))
      have hwo2 := Nat.le_trans hwo hf2.size
      clear hf2 S1 F1 HS1 hwo
      have AB : ∀ (X : World) (c : Cp), X.alloc (.cells #[.int .u32 c.cur, .int .u8 c.e, .int .u16 c.b, .int .u16 c.t, .int .u16 c.pm, .int .u16 c.ty, .int .u32 c.rs, .bool c.v] 25) = X.alloc (.cells c.cells 25) := fun _ _ => rfl
      have HAB := Lib.hid AB
      clear AB
      unfold Cp.cells
      go_wp2_with fail
      rw [HAB.out, HAB.out]
      refine (CFR.out _).mono ?_
      rintro e w3 ⟨rfl, hf3⟩
      have hga : Fr [] w2 ((w2.alloc (.cells a.cells 25)).alloc (.cells b.cells 25)) := (by repeat (first | exact Fr.refl _ _ | assumption | refine Fr.trans0 ?_ (by assumption) | refine Fr.drewN ?_ _ | refine Fr.alloc ?_ _ | refine Fr.drew ?_))
      have A3 := Lib.hid (((At.new w2 25 a.cells).old (.cells b.cells 25)).fr hf3 (by simp))
      have B3 := Lib.hid ((At.newq (w := w2.alloc (.cells a.cells 25)) (g := w2.heap.size + 1) (t := 25) (cs := b.cells) (by simp only [World.size_alloc])).fr hf3 (by simp))
      have S3 := Lib.hid ((S2.out.fr0 hga).fr0 hf3)
      have F3 := Lib.hid (((F2.out.alloc (.cells a.cells 25)).alloc (.cells b.cells 25)).trans0 hf3)
      have HS3 := Lib.hid ((HS2.out.fr hga (by simp)).fr hf3 (by simp))
      have hsz := F2.out.size
      obtain ⟨q, hq⟩ : ∃ q, w2.heap.size = q := ⟨_, rfl⟩
      rw [hq] at A3 B3 hsz hwo2 ⊢
      have hq3 := B3.out.lt
      clear hq hf3 S2 F2 hga HS2
      have HIC := Lib.hid infoCapS
      go_wp2_with (first | (refine wpList_store_all rfl 31 (.tmp 8) (.tmp 39) rfl _ (cat frL).toArray rfl rfl 31 Z (At.newq (by first | rfl | simp only [World.size_alloc])) (frInfo frL_len) (show Z.size = _ by rw [← HZ.out, cat_size zf_len, cat_size frL_len]) (cat_all _) ?_; intro w4 hA4 hF4) | (refine wpList_load_all rfl 31 (.tmp 8) rfl _ rfl 31 (cat frL).toArray _ hA4 Try.underlying31 rfl (frInfo frL_len) ?_) | (refine wpList_load_all rfl 25 (.tmp 6) rfl q rfl 25 a.cells _ ((A3.out.old _).fr hF4 (by simp <;> omega)) Try.underlying25 rfl HIC.out ?_) | (refine wpList_load_all rfl 25 (.tmp 7) rfl (q + 1) rfl 25 b.cells _ ((B3.out.old _).fr hF4 (by simp <;> omega)) Try.underlying25 rfl HIC.out ?_))
      have hga : Fr [] w3 (w3.alloc (.cells Z 31)) := (by repeat (first | exact Fr.refl _ _ | assumption | refine Fr.trans0 ?_ (by assumption) | refine Fr.drewN ?_ _ | refine Fr.alloc ?_ _ | refine Fr.drew ?_))
      have hsp3 := S3.out.1.lt
      have S4 := (S3.out.fr0 hga).fr hF4 (by simp <;> omega) (by simp [Value.ownBlock])
      have CC : Calls Try.prog 10 #[.pointer (some ⟨sp, 0, none⟩), .agg (cat frL).toArray, .agg a.cells, .agg b.cells] w4 fun r w' => ∃ v', r = .returned (.tuple #[.agg (cat (gF frL a.opened b.opened)).toArray, .int .i64 0]) ∧ St w' sp v' [xC, madeC 2048 1 0, madeC 2112 1 0] ∧ Fr [sp] w4 w' := by
        refine (scall_ok w4 sp _ [] S4 (by simp) frL frL_len _ _ _ P16.out P14.out P15.out (by show 0 < 4294967296; omega) a b HT.out).mono ?_
        rintro e w' ⟨v', h1, h2, h3, h4⟩
        exact ⟨v', h1, h2, h3⟩
      have F4 := Lib.hid ((F3.out.trans0 hga).trans hF4 (by have := F3.out.size; simp <;> omega))
      have hF4' : Fr [] w3 w4 := hga.trans hF4 (by simp <;> omega)
      have A4 := Lib.hid hA4
      have HS4 := Lib.hid (HS3.out.fr hF4' (by simp))
      have hwo3 : wo.heap.size ≤ w4.heap.size := by have := hF4'.size; omega
      obtain ⟨q4, hq4⟩ : ∃ q, w3.heap.size = q := ⟨_, rfl⟩
      rw [hq4] at A4 hsp3 hq3 ⊢
      have hl4 := A4.out.lt
      obtain ⟨G, hG⟩ : ∃ G, gF frL a.opened b.opened = G := ⟨_, rfl⟩
      rw [hG] at CC
      clear hga S4 hA4 hF4 A3 B3 S3 F3 hq4 hF4' HS3 hG
      have hwsp : wo.heap.size ≤ sp := hsp
      refine CC.mono ?_
      rintro e w5 ⟨v5, rfl, hs5, hf5⟩
      have S5 := Lib.hid hs5
      have A5 := Lib.hid (A4.out.fr hf5 (by simp <;> omega))
      have hwsz : w.heap.size ≤ sp := by omega
      have F5 := Lib.hid (F4.out.trans hf5 (by simp <;> omega))
      have HS5 := Lib.hid (HS4.out.fr hf5 (by simp; omega))
      have hwo5 := Nat.le_trans hwo3 hf5.size
      clear hs5 hf5 CC F4 A4 HS4 hwo3
      go_wp2_with fail
      have CS := sscan_any HS5.out hwo5 sp v5 _ S5.out (by simp [xC_is.2.2, madeC, mkC]) (by simp)
      rw [HS0.out, HM0.out] at CS
      obtain ⟨s, hs⟩ : ∃ s, b0.toNat + b4.toNat = s := ⟨_, rfl⟩
      obtain ⟨x, hx⟩ : ∃ s, xC = s := ⟨_, rfl⟩
      obtain ⟨y, hy⟩ : ∃ s, cut (madeC 2048 1 0) b0 = s := ⟨_, rfl⟩
      obtain ⟨z, hz'⟩ : ∃ s, cut (madeC 2112 1 0) b4 = s := ⟨_, rfl⟩
      rw [hs, hx, hy, hz'] at CS
      have HSS := Lib.hid hs
      have HX := Lib.hid (show x.v = true by rw [← hx]; exact xC_is.2.1)
      have HY := Lib.hid (show y.v = !b0 by rw [← hy]; cases b0 <;> rfl)
      have HZ' := Lib.hid (show z.v = !b4 by rw [← hz']; cases b4 <;> rfl)
      clear hs hx hy hz'
      refine CS.mono ?_
      rintro e w6 ⟨v6, rfl, hs6, hf6, -⟩
      have S6 := Lib.hid hs6
      have A6 := Lib.hid (A5.out.fr hf6 (by simp <;> omega))
      have F6 := Lib.hid (F5.out.trans hf6 (by simp <;> omega))
      clear hs6 hf6 CS F5 A5 HS5 S5
      go_wp2_with (refine wpList_load_all rfl 31 (.tmp 8) rfl q4 rfl 31 (cat frL).toArray _ A6.out Try.underlying31 rfl (frInfo frL_len) ?_)
      have CC : Calls Try.prog 15 #[.pointer (some ⟨sp, 0, none⟩), .agg (cat frL).toArray] w6 fun r w' => ∃ v', r = .returned (.tuple #[.agg (cat (hF frL x y z)).toArray, .int .i64 0]) ∧ St w' sp v' [] ∧ Fr [sp] w6 w' ∧ v'.ownBlock = v6.ownBlock := sret_ok w6 sp v6 [x, y, z] S6.out 0 rfl (by omega) x y z rfl rfl rfl frL frL_len
      refine CC.mono ?_
      rintro e w7 ⟨v7, rfl, hs7, hf7, -⟩
      have F7 := Lib.hid (F6.out.trans hf7 (by simp <;> omega))
      obtain ⟨H, hH⟩ : ∃ H, hF frL x y z = H := ⟨_, rfl⟩
      have h16 : H[16]? = some x := by rw [← hH, hF_at _ _ _ _ 16 (by omega)]; rfl
      have h14 : H[14]? = some y := by rw [← hH, hF_at _ _ _ _ 14 (by omega)]; rfl
      have h15 : H[15]? = some z := by rw [← hH, hF_at _ _ _ _ 15 (by omega)]; rfl
      have H16 := Lib.hid h16
      have H14 := Lib.hid h14
      have H15 := Lib.hid h15
      have HHL := Lib.hid (show H.length = 17 by rw [← hH]; exact hF_len _ _ _ _)
      rw [hH]
      clear hs7 hf7 hH CC S6 F6 A6 h16 h14 h15 CP CFR HT P16 P14 P15 HB HM0 HS0 HH
      have hBB0 := HB0.out
      have hBB4 := HB4.out
      have hs := HSS.out
      cases b0 <;> cases b4
      all_goals
        simp only [Bool.toNat_false, Bool.toNat_true, Nat.reduceAdd] at hs
        subst hs
        go_wp2_with ((refine wpList_store_all rfl 31 (.tmp 10) (.tmp 52) rfl _ (cat H).toArray rfl rfl 31 Z (At.newq (by first | rfl | simp only [World.size_alloc])) (frInfo HHL.out) (show Z.size = _ by rw [← HZ.out, cat_size zf_len, cat_size HHL.out]) (cat_all _) ?_; intro w8 hA8 hF8); have c0 := (cat_cell hA8 14 y H14.out).2.2.2.2.2.2.2; have c1 := (cat_cell hA8 15 z H15.out).2.2.2.2.2.2.2; have c2 := (cat_cell hA8 16 x H16.out).2.2.2.2.2.2.2; rw [HY.out] at c0; rw [HZ'.out] at c1; rw [HX.out] at c2; simp only [Nat.reduceMul, Nat.reduceAdd, Bool.not_true, Bool.not_false] at c0 c1 c2)
        go_ret
        exact ⟨rfl, (F7.out.alloc (.cells Z 31)).trans hF8 (by have := F7.out.size; simp <;> omega)⟩
theorem walk (a0 : Int) (w0 : (Lit.int .u16 a0).wf = true) (w : World) :
    Calls Try.prog 6 #[.int .u16 a0] w fun e w' => e = .returned (.bool true) ∧ Fr [] w w' := by
  have b0 := bounds_u16 w0
  obtain ⟨i, rfl⟩ := Int.eq_ofNat_of_zero_le b0.1
  exact walk_n i (by omega) w
theorem laidOut : laidOutB Try.prog = true := by kernel_rfl
set_option maxRecDepth 100000 in
theorem lifted (os : Os) (started : os.Started) (H : Type) (enc : TypeId × Value → H) :
    ReturnsInHanded {} Try.checked os 6 .any (Rows.compartScanSpec.pre6 enc Try.prog Try.f6 Rows.compartScanRow.domain false) (Rows.compartScanSpec.post enc Try.prog Try.f6 false true false false) := by
  refine returnsInHanded_of_change (C := Try.checked) own started (by kernel_rfl) Try.func6
    (ChangeSpec.witness6 (enc := enc) (C := Try.checked) false ⟨#[], #[.int .u16 0], []⟩ 8 (by kernel_rfl) (by kernel_rfl) (by kernel_rfl) (by kernel_rfl)) ?_
  intro W base args ds gs before hval0 hW hcnd _
  have hval : ∀ (j : Nat) t v, Try.f6.params[j]? = some t → args[j]? = some v → Value.okWide Try.prog W .any base t v := hval0
  have hW' := hW
  obtain ⟨p, q, hA0, hV, rfl, hfz, hnd⟩ := hW
  have hA : DataW.TrodAll enc Try.prog W 0 (fun _ => true) true Try.f6.params.toList args.toList ds p := hA0
  rw [Try.params6] at hA hval
  obtain ⟨v0, vs0, d0, ds0, p0, q0, hargs, rfl, rfl, h0, r0⟩ := trodAll_cons hA
  obtain ⟨rfl, rfl, rfl⟩ := trodAll_nil r0
  obtain rfl : args = #[v0] := by cases args; simp_all
  obtain ⟨rfl, rfl⟩ := trodVars_none hV
  obtain ⟨a0, rfl, rfl, rfl, w0⟩ := open_int Try.underlying23 (hval 0 23 v0 rfl rfl) h0
  clear hA0 hval0
  simp only [List.append_nil] at hW'
  refine (walk a0 w0 W ).mono fun e W' ⟨he, hg⟩ => ?_
  subst he
  exact ⟨_, rfl, post_fr (pa := []) (pv := []) hW' (fun _ _ _ => (trodAll_cons_mk (shut_bool Try.underlying4 _) trodAll_mk0)) (fun sp _ => (trodAll_cons_mk (shut_int Try.underlying23 w0) trodAll_mk0)) (fun _ _ => rfl) rfl
    hg (ok_one (by kernel_rfl) rfl (okWide_bool_mk Try.underlying4 _))⟩
theorem over : Rows.compartScanRow.holds Try.pinned (OpenSpec.ofChange Rows.compartScanSpec) :=
  OpenClaim.holds_of_wide 6 Try.f6 rfl rfl rfl rfl rfl rfl rfl ⟨rfl, rfl, rfl, rfl, rfl⟩ rfl rfl rfl rfl rfl (by kernel_rfl) Try.func6 (by kernel_rfl)
    (of_decide_eq_true (by kernel_rfl)) (by unfold Func.isWrapper; first | (rw [if_pos (by decide +kernel)]; kernel_rfl) | (rw [if_neg (by decide +kernel)]; exact ⟨rfl, rfl⟩))
    (fun os started H enc _ => lifted os started H enc)
/-- The statement, proved. -/
theorem proved : Rows.CompartScanSaid :=
  over
end compartScan
end Go.Proofs.Ytdfefnajhnlpdaa
