/-
  The frame and the small check of layer 20's statements. No condition.
-/



import Derived.Test.YtdfefnajhnlpdaaLmade
set_option linter.unusedVariables false
namespace Go.Proofs.Ytdfefnajhnlpdaa
open Go.ChangeShapes Go.WideShapes Go.ChangeAt Go.RowKit
/-- The law's frame while its first k registers are laid. -/
def fK (k : Nat) : List Cp := ((List.range k).map fun i => numC (100 + i)) ++ List.replicate (17 - k) noC
def frL : List Cp := (((fK 16).set 16 (madeC 0 4 0)).set 14 (madeC 2048 1 0)).set 15 (madeC 2112 1 0)
theorem fK_len (k : Nat) (h : k ≤ 17) : (fK k).length = 17 := by unfold fK; simp; omega
theorem fK_zero : fK 0 = zf := rfl
theorem fK_set (k : Nat) (h : k < 17) : (fK k).set k (numC (100 + k)) = fK (k + 1) := by
  unfold fK
  rw [List.set_append_right _ _ (by simp), show k - (List.map (fun i => numC (100 + i)) (List.range k)).length = 0 by simp, List.range_succ, List.map_append, List.append_assoc]
  congr 1
  rw [show 17 - k = (17 - (k + 1)) + 1 by omega, List.replicate_succ, List.set_cons_zero]
  rfl
theorem frL_len : frL.length = 17 := by unfold frL; rw [List.length_set, List.length_set, List.length_set, fK_len 16 (by omega)]
set_option maxHeartbeats 2000000 in
set_option maxRecDepth 100000 in
theorem lframe_any (w : World) : Calls Try.prog 11 #[] w fun r w' => r = .returned (.agg (cat frL).toArray) ∧ Fr [] w w' := by
  have hz := fun w => zeroFrame w
  have hb := fun w => builtFrame w
  have ZI := Lib.hid (frInfo zf_len)
  have ZA := Lib.hid (cat_all zf)
  obtain ⟨Z, hZ⟩ : ∃ Z, (cat zf).toArray = Z := ⟨_, rfl⟩
  rw [hZ] at hz hb ZI ZA
  have HZ := Lib.hid hZ
  clear hZ
  have CN := Lib.hid fun W v => number_any W v
  have CM := Lib.hid fun W a pm k h1 h2 => lmade_any W a pm k h1 h2
  obtain ⟨X, hX⟩ : ∃ X, (w.alloc (.cells Z 31)).alloc (.cells Z 31) = X := ⟨_, rfl⟩
  have B0 := Lib.hid (show At X w.heap.size 31 Z by rw [← hX]; exact (At.new _ _ _).old _)
  have B1 := Lib.hid (show At X (w.heap.size + 1) 31 (cat (fK 0)).toArray by rw [← hX, fK_zero, HZ.out]; exact At.newq (by simp only [World.size_alloc]))
  have FX := Lib.hid (show Fr [] w X by rw [← hX]; exact (by repeat (first | exact Fr.refl _ _ | assumption | refine Fr.trans0 ?_ (by assumption) | refine Fr.drewN ?_ _ | refine Fr.alloc ?_ _ | refine Fr.drew ?_)))
  have HX := Lib.hid hX
  have HL := Lib.hid fun k h => fK_len k h
  have HS := Lib.hid fun k h => fK_set k h
  have HFL := Lib.hid frL_len
  have HFI := Lib.hid (frInfo frL_len)
  have ZQ := Lib.hid (show Z.size = (cat frL).toArray.size by rw [← HZ.out, cat_size zf_len, cat_size frL_len])
  have HFD : Hid ((((fK 16).set 16 (madeC 0 4 0)).set 14 (madeC 2048 1 0)).set 15 (madeC 2112 1 0) = frL) := Lib.hid rfl
  clear hX
  go_enter Try.func11, Try.ntmps11
  go_wp2_with fail
  rw [HX.out]
  go_loopw [2] (fun i wr => ∃ k : Nat, k ≤ 16 ∧ i = .int .i64 k ∧ At wr w.heap.size 31 Z ∧ At wr (w.heap.size + 1) 31 (cat (fK k)).toArray ∧ Fr [] w wr) (fun i _ => 16 - (intOf i).toNat)
  case atStart => exact ⟨0, by omega, rfl, B0.out, B1.out, FX.out⟩
  case round =>
    clear B0 B1 FX HX
    obtain ⟨k, hk, rfl, h0, h1, hf⟩ := hrel
    have K0 := Lib.hid h0
    have K1 := Lib.hid h1
    have KF := Lib.hid hf
    have hws := hf.size
    have hl1 := h1.lt
    clear h0 h1 hf
    by_cases hkn : k < 16
    · have hwr : IntKind.u32.wrap (100 + (k : Int)) = ((100 + k : Nat) : Int) := by simp [IntKind.wrap, IntKind.signed, IntKind.bits]; omega
      go_wp2_with fail
      refine (CN.out _ (100 + k)).mono ?_
      rintro e w2 ⟨rfl, hf2⟩
      have L0 := Lib.hid (K0.out.fr hf2 (by simp))
      have L1 := Lib.hid (K1.out.fr hf2 (by simp))
      have LF := Lib.hid (KF.out.trans0 hf2)
      clear hf2
      go_wp2_with (refine wpList_store_cap rfl (.tmp 13) (.tmp 11) rfl (w.heap.size + 1) (k * 8) (numC (100 + k)) rfl rfl 31 (fK k) L1.out k rfl (by rw [HL.out k (by omega)]; omega) ?_; intro w3 hA3 hF3; rw [HS.out k (by omega)] at hA3)
      go_roundw
      case rel => exact ⟨k + 1, by omega, by go_num, L0.out.fr hF3 (by simp), hA3, LF.out.trans hF3 (by simp <;> omega)⟩
      case measure => simp [intOf]; omega
    · obtain rfl : k = 16 := by omega
      go_wp2_with fail
      refine (CM.out _ 0 4 0 (by omega) (by omega)).mono ?_
      rintro e w2 ⟨rfl, hf2⟩
      have L0 := Lib.hid (K0.out.fr hf2 (by simp))
      have L1 := Lib.hid (K1.out.fr hf2 (by simp))
      have LF := Lib.hid (KF.out.trans0 hf2)
      clear hf2 K0 K1 KF
      go_wp2_with (refine wpList_store_cap rfl (.tmp 15) (.tmp 14) rfl (w.heap.size + 1) 128 (madeC 0 4 0) rfl rfl 31 _ L1.out 16 rfl (by rw [HL.out 16 (by omega)]; omega) ?_; intro w3 hA3 hF3)
      refine (CM.out _ 2048 1 0 (by omega) (by omega)).mono ?_
      rintro e w4 ⟨rfl, hf4⟩
      have M0 := Lib.hid ((L0.out.fr hF3 (by simp)).fr hf4 (by simp))
      have M1 := Lib.hid (hA3.fr hf4 (by simp))
      have MF := Lib.hid ((LF.out.trans hF3 (by simp <;> omega)).trans0 hf4)
      clear hf4 hA3 hF3 L0 L1 LF
      go_wp2_with (refine wpList_store_cap rfl (.tmp 18) (.tmp 16) rfl (w.heap.size + 1) 112 (madeC 2048 1 0) rfl rfl 31 _ M1.out 14 rfl (by rw [List.length_set, HL.out 16 (by omega)]; omega) ?_; intro w5 hA5 hF5)
      refine (CM.out _ 2112 1 0 (by omega) (by omega)).mono ?_
      rintro e w6 ⟨rfl, hf6⟩
      have N0 := Lib.hid ((M0.out.fr hF5 (by simp)).fr hf6 (by simp))
      have N1 := Lib.hid (hA5.fr hf6 (by simp))
      have NF := Lib.hid ((MF.out.trans hF5 (by simp <;> omega)).trans0 hf6)
      clear hf6 hA5 hF5 M0 M1 MF
      go_wp2_with (first | (refine wpList_store_cap rfl (.tmp 21) (.tmp 19) rfl (w.heap.size + 1) 120 (madeC 2112 1 0) rfl rfl 31 _ N1.out 15 rfl (by rw [List.length_set, List.length_set, HL.out 16 (by omega)]; omega) ?_; intro w7 hA7 hF7; rw [HFD.out] at hA7) | (refine wpList_load_all rfl 31 (.tmp 1) rfl (w.heap.size + 1) rfl 31 _ _ hA7 Try.underlying31 rfl HFI.out ?_) | (refine wpList_store_all rfl 31 (.tmp 0) (.tmp 22) rfl w.heap.size _ rfl rfl 31 Z (N0.out.fr hF7 (by simp)) HFI.out ZQ.out (cat_all _) ?_; intro w8 hA8 hF8))
      exact bodyPost_ret (res_row rfl _ _ _ 31 _ _ rfl hA8 Try.underlying31 rfl HFI.out) rfl ⟨rfl, (NF.out.trans hF7 (by simp <;> omega)).trans hF8 (by simp)⟩
/-! ### the small check -/
theorem pair_ok (k : Nat) (h : 0 < k) (h2 : k < 65536) : trapI (madeC 512 132 k) (madeC 1024 129 k) = 0 := by
  have e1 : (((madeC 512 132 k).ty : Int) == 0) = false := by show (((k : Nat) : Int) == 0) = false; simp; omega
  have e2 : (((madeC 1024 129 k).ty : Int) == 0) = false := by show (((k : Nat) : Int) == 0) = false; simp; omega
  have e3 : (((madeC 512 132 k).ty : Int) != ((madeC 1024 129 k).ty : Int)) = false := by show (((k : Nat) : Int) != ((k : Nat) : Int)) = false; simp
  unfold trapI
  rw [e1, e2, e3]
  show trapB true true false false false (bits .and .u16 (bits .and .u16 ((132 : Nat) : Int) ((129 : Nat) : Int)) 128 == 0) (bits .and .u16 ((132 : Nat) : Int) 4 == 0) (bits .and .u16 ((129 : Nat) : Int) 4 == 0) = 0
  decide +kernel
theorem passF_len (fr : List Cp) : (passF fr).length = 17 := by unfold passF; rw [List.length_set, List.length_set, zf_len]
def gF (fr : List Cp) (a b : Cp) : List Cp := ((passF fr).set 16 a).set 15 b
def hF (fr : List Cp) (x y z : Cp) : List Cp := (((passF fr).set 16 x).set 14 y).set 15 z
theorem gF_len (fr : List Cp) (a b : Cp) : (gF fr a b).length = 17 := by unfold gF; rw [List.length_set, List.length_set, passF_len]
theorem hF_len (fr : List Cp) (x y z : Cp) : (hF fr x y z).length = 17 := by unfold hF; rw [List.length_set, List.length_set, List.length_set, passF_len]
theorem pass_at (fr : List Cp) (i : Nat) (hi : i < 17) : (passF fr)[i]? = some (if i = 10 then fr.getD 10 noC else if i = 11 then fr.getD 11 noC else noC) := by
  unfold passF
  rw [List.getElem?_set, List.length_set, zf_len]
  by_cases h11 : 11 = i
  · subst h11; simp
  · rw [if_neg h11, List.getElem?_set, zf_len]
    by_cases h10 : 10 = i
    · subst h10; simp
    · rw [if_neg h10, if_neg (show ¬ i = 10 from fun h => h10 h.symm), if_neg (show ¬ i = 11 from fun h => h11 h.symm)]
      unfold zf
      rw [List.getElem?_replicate, if_pos hi]
theorem gF_at (fr : List Cp) (a b : Cp) (i : Nat) (hi : i < 17) : (gF fr a b)[i]? = some (if i = 15 then b else if i = 16 then a else if i = 10 then fr.getD 10 noC else if i = 11 then fr.getD 11 noC else noC) := by
  unfold gF
  rw [List.getElem?_set, List.length_set, passF_len]
  by_cases h15 : 15 = i
  · subst h15; simp
  · rw [if_neg h15, List.getElem?_set, passF_len, if_neg (show ¬ i = 15 from fun h => h15 h.symm)]
    by_cases h16 : 16 = i
    · subst h16; simp
    · rw [if_neg h16, if_neg (show ¬ i = 16 from fun h => h16 h.symm), pass_at fr i hi]
theorem hF_at (fr : List Cp) (x y z : Cp) (i : Nat) (hi : i < 17) : (hF fr x y z)[i]? = some (if i = 15 then z else if i = 14 then y else if i = 16 then x else if i = 10 then fr.getD 10 noC else if i = 11 then fr.getD 11 noC else noC) := by
  unfold hF
  rw [List.getElem?_set, List.length_set, List.length_set, passF_len]
  by_cases h15 : 15 = i
  · subst h15; simp
  · rw [if_neg h15, List.getElem?_set, List.length_set, passF_len, if_neg (show ¬ i = 15 from fun h => h15 h.symm)]
    by_cases h14 : 14 = i
    · subst h14; simp
    · rw [if_neg h14, List.getElem?_set, passF_len, if_neg (show ¬ i = 14 from fun h => h14 h.symm)]
      by_cases h16 : 16 = i
      · subst h16; simp
      · rw [if_neg h16, if_neg (show ¬ i = 16 from fun h => h16 h.symm), pass_at fr i hi]
theorem fK_at (i : Nat) (hi : i < 16) : (fK 16)[i]? = some (numC (100 + i)) := by
  unfold fK
  rw [List.getElem?_append_left (by simp; exact hi)]
  simp [hi]
theorem frL_at : frL[16]? = some (madeC 0 4 0) ∧ frL[14]? = some (madeC 2048 1 0) ∧ frL[15]? = some (madeC 2112 1 0) ∧ ∀ i, i < 14 → frL[i]? = some (numC (100 + i)) := by
  unfold frL
  have hl := fK_len 16 (by omega)
  refine ⟨?_, ?_, ?_, fun i hi => ?_⟩
  · rw [List.getElem?_set, if_neg (by omega), List.getElem?_set, if_neg (by omega), List.getElem?_set, if_pos rfl, if_pos (by omega)]
  · rw [List.getElem?_set, if_neg (by omega), List.getElem?_set, if_pos rfl, if_pos (by rw [List.length_set]; omega)]
  · rw [List.getElem?_set, if_pos rfl, if_pos (by rw [List.length_set, List.length_set]; omega)]
  · rw [List.getElem?_set, if_neg (by omega), List.getElem?_set, if_neg (by omega), List.getElem?_set, if_neg (by omega), fK_at i (by omega)]
set_option maxHeartbeats 4000000 in
set_option maxRecDepth 100000 in
theorem works_any (w : World) : Calls Try.prog 8 #[] w fun r w' => r = .returned (.bool true) ∧ Fr [] w w' := by
  have hz := fun w => zeroFrame w
  have hb := fun w => builtFrame w
  have ZI := Lib.hid (frInfo zf_len)
  have ZA := Lib.hid (cat_all zf)
  obtain ⟨Z, hZ⟩ : ∃ Z, (cat zf).toArray = Z := ⟨_, rfl⟩
  rw [hZ] at hz hb ZI ZA
  have HZ := Lib.hid hZ
  clear hZ
  obtain ⟨p16, p14, p15, pi⟩ := frL_at
  obtain ⟨a, ha⟩ : ∃ c, madeC 512 132 7 = c := ⟨_, rfl⟩
  obtain ⟨b, hb'⟩ : ∃ c, madeC 1024 129 7 = c := ⟨_, rfl⟩
  have ht := pair_ok 7 (by omega) (by omega)
  have CP := Lib.hid fun W => lpair_any W 7
  rw [ha, hb'] at ht CP
  have HT := Lib.hid ht
  have CFR := Lib.hid fun W => lframe_any W
  have P16 := Lib.hid p16
  have P14 := Lib.hid p14
  have P15 := Lib.hid p15
  have CAP : ∀ (a b : Cp) (w : World), (Op.equalIn 10000 25 (.agg a.cells) (.agg b.cells)).run Try.prog w = .ok (eqC a b) w := cap_eq
  have CSE : ∀ a, eqC a a = true := eqC_self
  have HA := Lib.hid ha
  have HB := Lib.hid hb'
  clear p16 p14 p15 pi ha hb' ht
  go_enter Try.func8, Try.ntmps8
  go_wp2_with fail
  refine (snew_any _).mono ?_
  rintro e w1 ⟨sp, rfl, hs1, hsp, hf1⟩
  have S1 := Lib.hid hs1
  have F1 := Lib.hid hf1
  clear hs1 hf1
  go_wp2_with fail
  refine (CP.out _).mono ?_
  rintro e w2 ⟨rfl, hf2⟩
  have S2 := Lib.hid (S1.out.fr0 hf2)
  have F2 := Lib.hid (F1.out.trans0 hf2)
  clear hf2 S1 F1
  have AB : ∀ (X : World) (c : Cp), X.alloc (.cells #[.int .u32 c.cur, .int .u8 c.e, .int .u16 c.b, .int .u16 c.t, .int .u16 c.pm, .int .u16 c.ty, .int .u32 c.rs, .bool c.v] 25) = X.alloc (.cells c.cells 25) := fun _ _ => rfl
  have HAB := Lib.hid AB
  clear AB
  unfold Cp.cells
  go_wp2_with fail
  rw [HAB.out, HAB.out]
  refine (CFR.out _).mono ?_
  rintro e w3 ⟨rfl, hf3⟩
  have A3 := Lib.hid (((At.new w2 25 a.cells).old (.cells b.cells 25)).fr hf3 (by simp))
  have B3 := Lib.hid ((At.newq (w := w2.alloc (.cells a.cells 25)) (g := w2.heap.size + 1) (t := 25) (cs := b.cells) (by simp only [World.size_alloc])).fr hf3 (by simp))
  have S3 := Lib.hid ((S2.out.fr0 (show Fr [] w2 ((w2.alloc (.cells a.cells 25)).alloc (.cells b.cells 25)) from (by repeat (first | exact Fr.refl _ _ | assumption | refine Fr.trans0 ?_ (by assumption) | refine Fr.drewN ?_ _ | refine Fr.alloc ?_ _ | refine Fr.drew ?_)))).fr0 hf3)
  have F3 := Lib.hid (((F2.out.alloc (.cells a.cells 25)).alloc (.cells b.cells 25)).trans0 hf3)
  have hsz := F2.out.size
  obtain ⟨q, hq⟩ : ∃ q, w2.heap.size = q := ⟨_, rfl⟩
  rw [hq] at A3 B3 hsz ⊢
  have hq3 := B3.out.lt
  clear hq hf3 S2 F2
  have HIC := Lib.hid infoCapS
  go_wp2_with (first | (refine wpList_store_all rfl 31 (.tmp 4) (.tmp 17) rfl _ (cat frL).toArray rfl rfl 31 Z (At.newq (by first | rfl | simp only [World.size_alloc])) (frInfo frL_len) (show Z.size = _ by rw [← HZ.out, cat_size zf_len, cat_size frL_len]) (cat_all _) ?_; intro w4 hA4 hF4) | (refine wpList_load_all rfl 31 (.tmp 4) rfl _ rfl 31 (cat frL).toArray _ hA4 Try.underlying31 rfl (frInfo frL_len) ?_) | (refine wpList_load_all rfl 25 (.tmp 2) rfl q rfl 25 a.cells _ ((A3.out.old _).fr hF4 (by simp <;> omega)) Try.underlying25 rfl HIC.out ?_) | (refine wpList_load_all rfl 25 (.tmp 3) rfl (q + 1) rfl 25 b.cells _ ((B3.out.old _).fr hF4 (by simp <;> omega)) Try.underlying25 rfl HIC.out ?_))
  have hga : Fr [] w3 (w3.alloc (.cells Z 31)) := (by repeat (first | exact Fr.refl _ _ | assumption | refine Fr.trans0 ?_ (by assumption) | refine Fr.drewN ?_ _ | refine Fr.alloc ?_ _ | refine Fr.drew ?_))
  have hsp3 := S3.out.1.lt
  have S4 := (S3.out.fr0 hga).fr hF4 (by simp <;> omega) (by simp [Value.ownBlock])
  obtain ⟨x, hx⟩ : ∃ x, (madeC 0 4 0).addr 4 = x := ⟨_, rfl⟩
  have hxc : x.cur = 4 := by rw [← hx]; rfl
  obtain ⟨y, hy⟩ : ∃ y, madeC 2048 1 0 = y := ⟨_, rfl⟩
  obtain ⟨z, hz'⟩ : ∃ z, madeC 2112 1 0 = z := ⟨_, rfl⟩
  have CC : Calls Try.prog 10 #[.pointer (some ⟨sp, 0, none⟩), .agg (cat frL).toArray, .agg a.cells, .agg b.cells] w4 fun r w' => ∃ v', r = .returned (.tuple #[.agg (cat (gF frL a.opened b.opened)).toArray, .int .i64 0]) ∧ St w' sp v' [x, y, z] ∧ Fr [sp] w4 w' := by
    refine (scall_ok w4 sp _ [] S4 (by simp) frL frL_len _ _ _ P16.out P14.out P15.out (by show 0 < 4294967296; omega) a b HT.out).mono ?_
    rintro e w' ⟨v', h1, h2, h3, h4⟩
    refine ⟨v', h1, ?_, h3⟩
    rw [← hx, ← hy, ← hz']
    exact h2
  have HXC := Lib.hid hxc
  have F4 := Lib.hid ((F3.out.trans0 hga).trans hF4 (by have := F3.out.size; simp <;> omega))
  have A4 := Lib.hid hA4
  have HY := Lib.hid hy
  have HZ' := Lib.hid hz'
  obtain ⟨q4, hq4⟩ : ∃ q, w3.heap.size = q := ⟨_, rfl⟩
  rw [hq4] at A4 hsp3 hq3 ⊢
  have hl4 := A4.out.lt
  clear hga S4 hx hxc hy hz' hA4 hF4 A3 B3 S3 F3 hq4
  refine CC.mono ?_
  rintro e w5 ⟨v5, rfl, hs5, hf5⟩
  have S5 := Lib.hid hs5
  have A5 := Lib.hid (A4.out.fr hf5 (by simp <;> omega))
  have F5 := Lib.hid (F4.out.trans hf5 (by simp <;> omega))
  have hl5 := A5.out.lt
  obtain ⟨G, hG⟩ : ∃ G, gF frL a.opened b.opened = G := ⟨_, rfl⟩
  have HG := Lib.hid hG
  have HGL := Lib.hid (show G.length = 17 by rw [← hG]; exact gF_len _ _ _)
  rw [hG]
  clear hs5 hf5 hG CC F4 A4
  go_wp2_with (refine wpList_store_all rfl 31 (.tmp 5) (.tmp 24) rfl _ (cat G).toArray rfl rfl 31 Z (At.newq (by first | rfl | simp only [World.size_alloc])) (frInfo HGL.out) (show Z.size = _ by rw [← HZ.out, cat_size zf_len, cat_size HGL.out]) (cat_all _) ?_; intro w6 hA6 hF6)
  have hga : Fr [] w5 (w5.alloc (.cells Z 31)) := (by repeat (first | exact Fr.refl _ _ | assumption | refine Fr.trans0 ?_ (by assumption) | refine Fr.drewN ?_ _ | refine Fr.alloc ?_ _ | refine Fr.drew ?_))
  have hown : ∀ g, v5.ownBlock = some g → g ∉ [w5.heap.size] := fun g hg => by have := (S5.out.2.lt g hg).2; simp <;> omega
  have hsl := S5.out.1.lt
  have S6 := Lib.hid ((S5.out.fr0 hga).fr hF6 (by simp <;> omega) hown)
  have F6 := Lib.hid ((F5.out.trans0 hga).trans hF6 (by have := F5.out.size; simp <;> omega))
  have A6 := Lib.hid hA6
  have B6 := Lib.hid ((A5.out.fr hga (by simp)).fr hF6 (by simp <;> omega))
  obtain ⟨q6, hq6⟩ : ∃ q, w5.heap.size = q := ⟨_, rfl⟩
  rw [hq6] at A6 hsl hl5 ⊢
  have hl6 := A6.out.lt
  clear hga hown hA6 hF6 hq6 S5 F5 A5
  refine (show Calls Try.prog 12 #[.pointer (some ⟨sp, 0, none⟩)] w6 fun r w' => r = .returned (.int .i64 1) ∧ w6 = w' from (sdepth_any S6.out).mono fun e w' h => ⟨h.1.trans (by simp), h.2⟩).mono ?_
  rintro e w' ⟨rfl, rfl⟩
  go_wp2_with (refine wpList_load_all rfl 31 (.tmp 5) rfl q6 rfl 31 (cat G).toArray _ A6.out Try.underlying31 rfl (frInfo HGL.out) ?_)
  have CC : Calls Try.prog 15 #[.pointer (some ⟨sp, 0, none⟩), .agg (cat G).toArray] w6 fun r w' => ∃ v', r = .returned (.tuple #[.agg (cat (hF G x y z)).toArray, .int .i64 0]) ∧ St w' sp v' [] ∧ Fr [sp] w6 w' ∧ v'.ownBlock = v5.ownBlock := sret_ok w6 sp v5 [x, y, z] S6.out 0 rfl (by omega) x y z rfl rfl rfl G HGL.out
  refine CC.mono ?_
  rintro e w7 ⟨v7, rfl, hs7, hf7, -⟩
  have S7 := Lib.hid hs7
  have A7 := Lib.hid (A6.out.fr hf7 (by simp <;> omega))
  have B7 := Lib.hid (B6.out.fr hf7 (by simp <;> omega))
  have F7 := Lib.hid (F6.out.trans hf7 (by simp <;> omega))
  have hl7 := A7.out.lt
  obtain ⟨H, hH⟩ : ∃ H, hF G x y z = H := ⟨_, rfl⟩
  have HH := Lib.hid hH
  have HHL := Lib.hid (show H.length = 17 by rw [← hH]; exact hF_len _ _ _ _)
  rw [hH]
  clear hs7 hf7 hH CC S6 F6 A6 B6
  go_wp2_with (first | (refine wpList_store_all rfl 31 (.tmp 8) (.tmp 32) rfl _ (cat H).toArray rfl rfl 31 Z (At.newq (by first | rfl | simp only [World.size_alloc])) (frInfo HHL.out) (show Z.size = _ by rw [← HZ.out, cat_size zf_len, cat_size HHL.out]) (cat_all _) ?_; intro w8 hA8 hF8) | (refine wpList_load_all rfl 31 (.tmp 8) rfl _ rfl 31 (cat H).toArray _ hA8 Try.underlying31 rfl (frInfo HHL.out) ?_))
  have hga : Fr [] w7 (w7.alloc (.cells Z 31)) := (by repeat (first | exact Fr.refl _ _ | assumption | refine Fr.trans0 ?_ (by assumption) | refine Fr.drewN ?_ _ | refine Fr.alloc ?_ _ | refine Fr.drew ?_))
  have hown : ∀ g, v7.ownBlock = some g → g ∉ [w7.heap.size] := fun g hg => by have := (S7.out.2.lt g hg).2; simp <;> omega
  have hsl' := S7.out.1.lt
  have S8 := Lib.hid ((S7.out.fr0 hga).fr hF8 (by simp <;> omega) hown)
  have F8 := Lib.hid ((F7.out.trans0 hga).trans hF8 (by have := F7.out.size; simp <;> omega))
  have A8 := Lib.hid ((A7.out.fr hga (by simp)).fr hF8 (by simp <;> omega))
  have B8 := Lib.hid ((B7.out.fr hga (by simp)).fr hF8 (by simp <;> omega))
  have C8 := Lib.hid hA8
  obtain ⟨q8, hq8⟩ : ∃ q, w7.heap.size = q := ⟨_, rfl⟩
  rw [hq8] at C8 hl7 ⊢
  have hl8 := C8.out.lt
  clear hga hown hA8 hF8 hq8 S7 F7 A7 B7 hsl'
  have CC := sret_none w8 sp v7 [] S8.out (by simp) H
  rw [HZ.out] at CC
  refine CC.mono ?_
  rintro e w9 ⟨rfl, hf9⟩
  have A9 := Lib.hid (A8.out.fr hf9 (by simp))
  have B9 := Lib.hid (B8.out.fr hf9 (by simp))
  have C9 := Lib.hid (C8.out.fr hf9 (by simp))
  have F9 := Lib.hid (F8.out.trans0 hf9)
  have hl9 := C9.out.lt
  clear hf9 CC A8 B8 C8 F8 S8
  have g16 : G[16]? = some (madeC 512 132 0) := by rw [← HG.out, gF_at _ _ _ 16 (by omega), ← HA.out]; rfl
  have g15 : G[15]? = some (madeC 1024 129 0) := by rw [← HG.out, gF_at _ _ _ 15 (by omega), ← HB.out]; rfl
  have g14 : G[14]? = some (numC 0) := by rw [← HG.out, gF_at _ _ _ 14 (by omega)]; rfl
  have g9 : G[9]? = some (numC 0) := by rw [← HG.out, gF_at _ _ _ 9 (by omega)]; rfl
  have f10 : frL[10]? = some (numC 110) := frL_at.2.2.2 10 (by omega)
  have g10 : G[10]? = some (numC 110) := by rw [← HG.out, gF_at _ _ _ 10 (by omega), List.getD_eq_getElem?_getD, f10]; rfl
  have h16 : H[16]? = some x := by rw [← HH.out, hF_at _ _ _ _ 16 (by omega)]; rfl
  have h14 : H[14]? = some y := by rw [← HH.out, hF_at _ _ _ _ 14 (by omega)]; rfl
  have h15 : H[15]? = some z := by rw [← HH.out, hF_at _ _ _ _ 15 (by omega)]; rfl
  have f14 : frL[14]? = some y := by rw [← HY.out]; exact P14.out
  have f15 : frL[15]? = some z := by rw [← HZ'.out]; exact P15.out
  have G16 := Lib.hid g16
  have G15 := Lib.hid g15
  have G14 := Lib.hid g14
  have G9 := Lib.hid g9
  have G10 := Lib.hid g10
  have F10 := Lib.hid f10
  have F14 := Lib.hid f14
  have F15 := Lib.hid f15
  have H16 := Lib.hid h16
  have H14 := Lib.hid h14
  have H15 := Lib.hid h15
  obtain ⟨m1, hm1⟩ : ∃ m, madeC 512 132 0 = m := ⟨_, rfl⟩
  obtain ⟨m2, hm2⟩ : ∃ m, madeC 1024 129 0 = m := ⟨_, rfl⟩
  obtain ⟨n0, hn0⟩ : ∃ m, numC 0 = m := ⟨_, rfl⟩
  obtain ⟨n1, hn1⟩ : ∃ m, numC 110 = m := ⟨_, rfl⟩
  have CM1 := Lib.hid fun W => lmade_any W 512 132 0 (by omega) (by omega)
  have CM2 := Lib.hid fun W => lmade_any W 1024 129 0 (by omega) (by omega)
  have CN0 := Lib.hid fun W => number_any W 0
  rw [hm1] at G16 CM1
  rw [hm2] at G15 CM2
  rw [hn0] at G14 G9 CN0
  rw [hn1] at G10 F10
  clear g16 g15 g14 g9 g10 f10 f14 f15 h16 h14 h15 hm1 hm2 hn0 hn1 HA HB
  go_wp2_with (refine wpList_store_all rfl 31 (.tmp 10) (.tmp 38) rfl _ Z rfl rfl 31 Z (At.newq rfl) ZI.out rfl ZA.out ?_; intro w10 hA10 hF10)
  have A10 := Lib.hid ((A9.out.old (.cells Z 31)).fr hF10 (by simp <;> omega))
  have B10 := Lib.hid ((B9.out.old (.cells Z 31)).fr hF10 (by simp <;> omega))
  have C10 := Lib.hid ((C9.out.old (.cells Z 31)).fr hF10 (by simp <;> omega))
  have F10' := Lib.hid ((F9.out.alloc (.cells Z 31)).trans hF10 (by have := F9.out.size; simp <;> omega))
  clear hA10 hF10 A9 B9 C9 F9
  refine wp_region_L (fun W => At W q6 31 (cat G).toArray ∧ At W q4 31 (cat frL).toArray ∧ At W q8 31 (cat H).toArray) [] (by kernel_rfl) ⟨A10.out, B10.out, C10.out⟩ (fun hHeld => ?_)
  refine wpAnyL_take (i := 0) (v := ?_) rfl (by kernel_rfl) (fun _ _ _ h => h) (Or.inl ⟨by rfl, ?_⟩) (by assumption) ?_; rotate_left; (focus (intro w hSw; skip; go_simp; (try with_reducible rfl))); (try (refine wpAnyL_norm (by simp only [Act.put, List.setIfInBounds_toArray, List.set_cons_zero, List.set_cons_succ]; rfl) ?_))
  refine wpAnyL_take (i := 1) (v := ?_) rfl (by kernel_rfl) (fun _ _ _ h => h) (Or.inl ⟨by rfl, ?_⟩) (by assumption) ?_; rotate_left; (focus (intro w hSw; skip; go_simp; (try with_reducible rfl))); (try (refine wpAnyL_norm (by simp only [Act.put, List.setIfInBounds_toArray, List.set_cons_zero, List.set_cons_succ]; rfl) ?_))
  refine wpAnyL_take (i := 2) (v := ?_) rfl (by kernel_rfl) (fun _ _ _ h => h) (Or.inl ⟨by rfl, ?_⟩) (by assumption) ?_; rotate_left; (focus (intro w hSw; skip; go_simp; (try with_reducible rfl))); (try (refine wpAnyL_norm (by simp only [Act.put, List.setIfInBounds_toArray, List.set_cons_zero, List.set_cons_succ]; rfl) ?_))
  refine wpAnyL_take (i := 3) (v := ?_) rfl (by kernel_rfl) (fun _ _ _ h => h) (Or.inl ⟨by rfl, ?_⟩) (by assumption) ?_; rotate_left; (focus (intro w hSw; skip; go_simp; (try with_reducible rfl))); (try (refine wpAnyL_norm (by simp only [Act.put, List.setIfInBounds_toArray, List.set_cons_zero, List.set_cons_succ]; rfl) ?_))
  refine wpAnyL_take (i := 4) (v := ?_) rfl (by kernel_rfl) (fun _ _ _ h => h) (Or.inl ⟨by rfl, ?_⟩) (by assumption) ?_; rotate_left; (focus (intro w hSw; skip; go_simp; (try with_reducible rfl))); (try (refine wpAnyL_norm (by simp only [Act.put, List.setIfInBounds_toArray, List.set_cons_zero, List.set_cons_succ]; rfl) ?_))
  refine wpAnyL_take (i := 5) (v := ?_) rfl (by kernel_rfl) (fun _ _ _ h => h) (Or.inl ⟨by rfl, ?_⟩) (by assumption) ?_; rotate_left; (focus (intro w hSw; skip; go_simp; (try with_reducible rfl))); (try (refine wpAnyL_norm (by simp only [Act.put, List.setIfInBounds_toArray, List.set_cons_zero, List.set_cons_succ]; rfl) ?_))
  refine wpAnyL_take (i := 6) (v := ?_) rfl (by kernel_rfl) (fun _ _ _ h => h) (Or.inl ⟨by rfl, ?_⟩) (by assumption) ?_; rotate_left; (focus (intro w hSw; skip; go_simp; (try with_reducible rfl))); (try (refine wpAnyL_norm (by simp only [Act.put, List.setIfInBounds_toArray, List.set_cons_zero, List.set_cons_succ]; rfl) ?_))
  refine wpAnyL_take (i := 7) (v := ?_) rfl (by kernel_rfl) (fun _ _ _ h => h) (Or.inl ⟨by rfl, ?_⟩) (by assumption) ?_; rotate_left; (focus (intro w hSw; skip; go_simp; (try with_reducible rfl))); (try (refine wpAnyL_norm (by simp only [Act.put, List.setIfInBounds_toArray, List.set_cons_zero, List.set_cons_succ]; rfl) ?_))
  refine wpAnyL_take (i := 8) rfl (by kernel_rfl) (fun _ _ _ h => h) (yields_load_cap (.tmp 47) rfl q6 128 rfl 31 G (fun W h => h.1) 16 rfl m1 G16.out rfl) (by assumption) ?_; (try (refine wpAnyL_norm (by simp only [Act.put, List.setIfInBounds_toArray, List.set_cons_zero, List.set_cons_succ]; rfl) ?_))
  refine wpAnyL_ready (rs := [9]) (by kernel_rfl) (by simp) ?_; refine AllReadyL.cons rfl (fun K hK => ?_) AllReadyL.nil
  go_simp
  refine (CM1.out _).mono ?_
  rintro e w11 ⟨rfl, hf11⟩
  refine hK.out _ _ (fun _ => ⟨hHeld.1.fr hf11 (by simp), hHeld.2.1.fr hf11 (by simp), hHeld.2.2.fr hf11 (by simp)⟩) (fun hHeld' => ?_); have hHeld := hHeld' (by decide); clear hHeld' hK K; (try (refine wpAnyL_norm (by simp only [Act.put, List.setIfInBounds_toArray, List.set_cons_zero, List.set_cons_succ]; rfl) ?_))
  refine wpAnyL_take (i := 10) (v := ?_) rfl (by kernel_rfl) (fun _ _ _ h => h) (Or.inl ⟨by rfl, ?_⟩) (by assumption) ?_; rotate_left; (focus (intro w hSw; skip; go_simp; (try with_reducible rfl))); (try (refine wpAnyL_norm (by simp only [Act.put, List.setIfInBounds_toArray, List.set_cons_zero, List.set_cons_succ]; rfl) ?_))
  refine wpAnyL_take (i := 11) (v := ?_) rfl (by kernel_rfl) (fun _ _ _ h => h) (Or.inl ⟨by rfl, ?_⟩) (by assumption) ?_; rotate_left; (focus (intro w hSw; skip; go_simp; (try with_reducible rfl))); (try (refine wpAnyL_norm (by simp only [Act.put, List.setIfInBounds_toArray, List.set_cons_zero, List.set_cons_succ]; rfl) ?_))
  refine wpAnyL_take (i := 12) (v := ?_) rfl (by kernel_rfl) (fun _ _ _ h => h) (Or.inl ⟨by rfl, ?_⟩) (by assumption) ?_; rotate_left; (focus (intro w hSw; skip; go_simp; (try with_reducible rfl))); (try (refine wpAnyL_norm (by simp only [Act.put, List.setIfInBounds_toArray, List.set_cons_zero, List.set_cons_succ]; rfl) ?_))
  refine wpAnyL_take (i := 13) (v := ?_) rfl (by kernel_rfl) (fun _ _ _ h => h) (Or.inl ⟨by rfl, ?_⟩) (by assumption) ?_; rotate_left; (focus (intro w hSw; skip; go_simp; (try with_reducible rfl))); (try (refine wpAnyL_norm (by simp only [Act.put, List.setIfInBounds_toArray, List.set_cons_zero, List.set_cons_succ]; rfl) ?_))
  refine wpAnyL_take (i := 14) (v := ?_) rfl (by kernel_rfl) (fun _ _ _ h => h) (Or.inl ⟨by rfl, ?_⟩) (by assumption) ?_; rotate_left; (focus (intro w hSw; skip; go_simp; (try with_reducible rfl))); (try (refine wpAnyL_norm (by simp only [Act.put, List.setIfInBounds_toArray, List.set_cons_zero, List.set_cons_succ]; rfl) ?_))
  refine wpAnyL_take (i := 15) rfl (by kernel_rfl) (fun _ _ _ h => h) (yields_load_cap (.tmp 54) rfl q6 120 rfl 31 G (fun W h => h.1) 15 rfl m2 G15.out rfl) (by assumption) ?_; (try (refine wpAnyL_norm (by simp only [Act.put, List.setIfInBounds_toArray, List.set_cons_zero, List.set_cons_succ]; rfl) ?_))
  refine wpAnyL_ready (rs := [16]) (by kernel_rfl) (by simp) ?_; refine AllReadyL.cons rfl (fun K hK => ?_) AllReadyL.nil
  go_simp
  refine (CM2.out _).mono ?_
  rintro e w12 ⟨rfl, hf12⟩
  refine hK.out _ _ (fun _ => ⟨hHeld.1.fr hf12 (by simp), hHeld.2.1.fr hf12 (by simp), hHeld.2.2.fr hf12 (by simp)⟩) (fun hHeld' => ?_); have hHeld := hHeld' (by decide); clear hHeld' hK K; (try (refine wpAnyL_norm (by simp only [Act.put, List.setIfInBounds_toArray, List.set_cons_zero, List.set_cons_succ]; rfl) ?_))
  refine wpAnyL_take (i := 17) (v := ?_) rfl (by kernel_rfl) (fun _ _ _ h => h) (Or.inl ⟨by rfl, ?_⟩) (by assumption) ?_; rotate_left; (focus (intro w hSw; skip; go_simp; (try with_reducible rfl))); (try (refine wpAnyL_norm (by simp only [Act.put, List.setIfInBounds_toArray, List.set_cons_zero, List.set_cons_succ]; rfl) ?_))
  refine wpAnyL_take (i := 18) (v := ?_) rfl (by kernel_rfl) (fun _ _ _ h => h) (Or.inl ⟨by rfl, ?_⟩) (by assumption) ?_; rotate_left; (focus (intro w hSw; skip; go_simp; (try with_reducible rfl))); (try (refine wpAnyL_norm (by simp only [Act.put, List.setIfInBounds_toArray, List.set_cons_zero, List.set_cons_succ]; rfl) ?_))
  refine wpAnyL_take (i := 19) (v := ?_) rfl (by kernel_rfl) (fun _ _ _ h => h) (Or.inl ⟨by rfl, ?_⟩) (by assumption) ?_; rotate_left; (focus (intro w hSw; skip; go_simp; (try with_reducible rfl))); (try (refine wpAnyL_norm (by simp only [Act.put, List.setIfInBounds_toArray, List.set_cons_zero, List.set_cons_succ]; rfl) ?_))
  refine wpAnyL_take (i := 20) (v := ?_) rfl (by kernel_rfl) (fun _ _ _ h => h) (Or.inl ⟨by rfl, ?_⟩) (by assumption) ?_; rotate_left; (focus (intro w hSw; skip; go_simp; (try with_reducible rfl))); (try (refine wpAnyL_norm (by simp only [Act.put, List.setIfInBounds_toArray, List.set_cons_zero, List.set_cons_succ]; rfl) ?_))
  refine wpAnyL_take (i := 21) (v := ?_) rfl (by kernel_rfl) (fun _ _ _ h => h) (Or.inl ⟨by rfl, ?_⟩) (by assumption) ?_; rotate_left; (focus (intro w hSw; skip; go_simp; (try with_reducible rfl))); (try (refine wpAnyL_norm (by simp only [Act.put, List.setIfInBounds_toArray, List.set_cons_zero, List.set_cons_succ]; rfl) ?_))
  refine wpAnyL_take (i := 22) rfl (by kernel_rfl) (fun _ _ _ h => h) (yields_load_cap (.tmp 61) rfl q6 112 rfl 31 G (fun W h => h.1) 14 rfl n0 G14.out rfl) (by assumption) ?_; (try (refine wpAnyL_norm (by simp only [Act.put, List.setIfInBounds_toArray, List.set_cons_zero, List.set_cons_succ]; rfl) ?_))
  refine wpAnyL_ready (rs := [23]) (by kernel_rfl) (by simp) ?_; refine AllReadyL.cons rfl (fun K hK => ?_) AllReadyL.nil
  go_simp
  refine (CN0.out _).mono ?_
  rintro e w13 ⟨rfl, hf13⟩
  refine hK.out _ _ (fun _ => ⟨hHeld.1.fr hf13 (by simp), hHeld.2.1.fr hf13 (by simp), hHeld.2.2.fr hf13 (by simp)⟩) (fun hHeld' => ?_); have hHeld := hHeld' (by decide); clear hHeld' hK K; (try (refine wpAnyL_norm (by simp only [Act.put, List.setIfInBounds_toArray, List.set_cons_zero, List.set_cons_succ]; rfl) ?_))
  refine wpAnyL_take (i := 24) (v := ?_) rfl (by kernel_rfl) (fun _ _ _ h => h) (Or.inl ⟨by rfl, ?_⟩) (by assumption) ?_; rotate_left; (focus (intro w hSw; skip; go_simp; (try with_reducible rfl))); (try (refine wpAnyL_norm (by simp only [Act.put, List.setIfInBounds_toArray, List.set_cons_zero, List.set_cons_succ]; rfl) ?_))
  refine wpAnyL_take (i := 25) (v := ?_) rfl (by kernel_rfl) (fun _ _ _ h => h) (Or.inl ⟨by rfl, ?_⟩) (by assumption) ?_; rotate_left; (focus (intro w hSw; skip; go_simp; (try with_reducible rfl))); (try (refine wpAnyL_norm (by simp only [Act.put, List.setIfInBounds_toArray, List.set_cons_zero, List.set_cons_succ]; rfl) ?_))
  refine wpAnyL_take (i := 26) (v := ?_) rfl (by kernel_rfl) (fun _ _ _ h => h) (Or.inl ⟨by rfl, ?_⟩) (by assumption) ?_; rotate_left; (focus (intro w hSw; skip; go_simp; (try with_reducible rfl))); (try (refine wpAnyL_norm (by simp only [Act.put, List.setIfInBounds_toArray, List.set_cons_zero, List.set_cons_succ]; rfl) ?_))
  refine wpAnyL_take (i := 27) (v := ?_) rfl (by kernel_rfl) (fun _ _ _ h => h) (Or.inl ⟨by rfl, ?_⟩) (by assumption) ?_; rotate_left; (focus (intro w hSw; skip; go_simp; (try with_reducible rfl))); (try (refine wpAnyL_norm (by simp only [Act.put, List.setIfInBounds_toArray, List.set_cons_zero, List.set_cons_succ]; rfl) ?_))
  refine wpAnyL_take (i := 28) (v := ?_) rfl (by kernel_rfl) (fun _ _ _ h => h) (Or.inl ⟨by rfl, ?_⟩) (by assumption) ?_; rotate_left; (focus (intro w hSw; skip; go_simp; (try with_reducible rfl))); (try (refine wpAnyL_norm (by simp only [Act.put, List.setIfInBounds_toArray, List.set_cons_zero, List.set_cons_succ]; rfl) ?_))
  refine wpAnyL_take (i := 29) rfl (by kernel_rfl) (fun _ _ _ h => h) (yields_load_cap (.tmp 68) rfl q6 80 rfl 31 G (fun W h => h.1) 10 rfl n1 G10.out rfl) (by assumption) ?_; (try (refine wpAnyL_norm (by simp only [Act.put, List.setIfInBounds_toArray, List.set_cons_zero, List.set_cons_succ]; rfl) ?_))
  refine wpAnyL_take (i := 30) (v := ?_) rfl (by kernel_rfl) (fun _ _ _ h => h) (Or.inl ⟨by rfl, ?_⟩) (by assumption) ?_; rotate_left; (focus (intro w hSw; skip; go_simp; (try with_reducible rfl))); (try (refine wpAnyL_norm (by simp only [Act.put, List.setIfInBounds_toArray, List.set_cons_zero, List.set_cons_succ]; rfl) ?_))
  refine wpAnyL_take (i := 31) (v := ?_) rfl (by kernel_rfl) (fun _ _ _ h => h) (Or.inl ⟨by rfl, ?_⟩) (by assumption) ?_; rotate_left; (focus (intro w hSw; skip; go_simp; (try with_reducible rfl))); (try (refine wpAnyL_norm (by simp only [Act.put, List.setIfInBounds_toArray, List.set_cons_zero, List.set_cons_succ]; rfl) ?_))
  refine wpAnyL_take (i := 32) rfl (by kernel_rfl) (fun _ _ _ h => h) (yields_load_cap (.tmp 71) rfl q4 80 rfl 31 frL (fun W h => h.2.1) 10 rfl n1 F10.out rfl) (by assumption) ?_; (try (refine wpAnyL_norm (by simp only [Act.put, List.setIfInBounds_toArray, List.set_cons_zero, List.set_cons_succ]; rfl) ?_))
  refine wpAnyL_take (i := 33) (v := ?_) rfl (by kernel_rfl) (fun _ _ _ h => h) (Or.inl ⟨by rfl, ?_⟩) (by assumption) ?_; rotate_left; (focus (intro w hSw; skip; go_simp; (try with_reducible rfl))); (try (refine wpAnyL_norm (by simp only [Act.put, List.setIfInBounds_toArray, List.set_cons_zero, List.set_cons_succ]; rfl) ?_))
  refine wpAnyL_take (i := 34) (v := ?_) rfl (by kernel_rfl) (fun _ _ _ h => h) (Or.inl ⟨by rfl, ?_⟩) (by assumption) ?_; rotate_left; (focus (intro w hSw; skip; go_simp; (try with_reducible rfl))); (try (refine wpAnyL_norm (by simp only [Act.put, List.setIfInBounds_toArray, List.set_cons_zero, List.set_cons_succ]; rfl) ?_))
  refine wpAnyL_take (i := 35) (v := ?_) rfl (by kernel_rfl) (fun _ _ _ h => h) (Or.inl ⟨by rfl, ?_⟩) (by assumption) ?_; rotate_left; (focus (intro w hSw; skip; go_simp; (try with_reducible rfl))); (try (refine wpAnyL_norm (by simp only [Act.put, List.setIfInBounds_toArray, List.set_cons_zero, List.set_cons_succ]; rfl) ?_))
  refine wpAnyL_take (i := 36) (v := ?_) rfl (by kernel_rfl) (fun _ _ _ h => h) (Or.inl ⟨by rfl, ?_⟩) (by assumption) ?_; rotate_left; (focus (intro w hSw; skip; go_simp; (try with_reducible rfl))); (try (refine wpAnyL_norm (by simp only [Act.put, List.setIfInBounds_toArray, List.set_cons_zero, List.set_cons_succ]; rfl) ?_))
  refine wpAnyL_take (i := 37) (v := ?_) rfl (by kernel_rfl) (fun _ _ _ h => h) (Or.inl ⟨by rfl, ?_⟩) (by assumption) ?_; rotate_left; (focus (intro w hSw; skip; go_simp; (try with_reducible rfl))); (try (refine wpAnyL_norm (by simp only [Act.put, List.setIfInBounds_toArray, List.set_cons_zero, List.set_cons_succ]; rfl) ?_))
  refine wpAnyL_take (i := 38) rfl (by kernel_rfl) (fun _ _ _ h => h) (yields_load_cap (.tmp 77) rfl q6 72 rfl 31 G (fun W h => h.1) 9 rfl n0 G9.out rfl) (by assumption) ?_; (try (refine wpAnyL_norm (by simp only [Act.put, List.setIfInBounds_toArray, List.set_cons_zero, List.set_cons_succ]; rfl) ?_))
  refine wpAnyL_ready (rs := [39]) (by kernel_rfl) (by simp) ?_; refine AllReadyL.cons rfl (fun K hK => ?_) AllReadyL.nil
  go_simp
  refine (CN0.out _).mono ?_
  rintro e w14 ⟨rfl, hf14⟩
  refine hK.out _ _ (fun _ => ⟨hHeld.1.fr hf14 (by simp), hHeld.2.1.fr hf14 (by simp), hHeld.2.2.fr hf14 (by simp)⟩) (fun hHeld' => ?_); have hHeld := hHeld' (by decide); clear hHeld' hK K; (try (refine wpAnyL_norm (by simp only [Act.put, List.setIfInBounds_toArray, List.set_cons_zero, List.set_cons_succ]; rfl) ?_))
  refine wpAnyL_take (i := 40) (v := ?_) rfl (by kernel_rfl) (fun _ _ _ h => h) (Or.inl ⟨by rfl, ?_⟩) (by assumption) ?_; rotate_left; (focus (intro w hSw; skip; go_simp; (try with_reducible rfl))); (try (refine wpAnyL_norm (by simp only [Act.put, List.setIfInBounds_toArray, List.set_cons_zero, List.set_cons_succ]; rfl) ?_))
  refine wpAnyL_take (i := 41) (v := ?_) rfl (by kernel_rfl) (fun _ _ _ h => h) (Or.inl ⟨by rfl, ?_⟩) (by assumption) ?_; rotate_left; (focus (intro w hSw; skip; go_simp; (try with_reducible rfl))); (try (refine wpAnyL_norm (by simp only [Act.put, List.setIfInBounds_toArray, List.set_cons_zero, List.set_cons_succ]; rfl) ?_))
  refine wpAnyL_take (i := 42) (v := ?_) rfl (by kernel_rfl) (fun _ _ _ h => h) (Or.inl ⟨by rfl, ?_⟩) (by assumption) ?_; rotate_left; (focus (intro w hSw; skip; go_simp; (try with_reducible rfl))); (try (refine wpAnyL_norm (by simp only [Act.put, List.setIfInBounds_toArray, List.set_cons_zero, List.set_cons_succ]; rfl) ?_))
  refine wpAnyL_take (i := 43) (v := ?_) rfl (by kernel_rfl) (fun _ _ _ h => h) (Or.inl ⟨by rfl, ?_⟩) (by assumption) ?_; rotate_left; (focus (intro w hSw; skip; go_simp; (try with_reducible rfl))); (try (refine wpAnyL_norm (by simp only [Act.put, List.setIfInBounds_toArray, List.set_cons_zero, List.set_cons_succ]; rfl) ?_))
  refine wpAnyL_take (i := 44) (v := ?_) rfl (by kernel_rfl) (fun _ _ _ h => h) (Or.inl ⟨by rfl, ?_⟩) (by assumption) ?_; rotate_left; (focus (intro w hSw; skip; go_simp; (try with_reducible rfl))); (try (refine wpAnyL_norm (by simp only [Act.put, List.setIfInBounds_toArray, List.set_cons_zero, List.set_cons_succ]; rfl) ?_))
  refine wpAnyL_take (i := 45) (v := ?_) rfl (by kernel_rfl) (fun _ _ _ h => h) (Or.inl ⟨by rfl, ?_⟩) (by assumption) ?_; rotate_left; (focus (intro w hSw; skip; go_simp; (try with_reducible rfl))); (try (refine wpAnyL_norm (by simp only [Act.put, List.setIfInBounds_toArray, List.set_cons_zero, List.set_cons_succ]; rfl) ?_))
  refine wpAnyL_take (i := 46) (v := ?_) rfl (by kernel_rfl) (fun _ _ _ h => h) (Or.inl ⟨by rfl, ?_⟩) (by assumption) ?_; rotate_left; (focus (intro w hSw; skip; go_simp; (try with_reducible rfl))); (try (refine wpAnyL_norm (by simp only [Act.put, List.setIfInBounds_toArray, List.set_cons_zero, List.set_cons_succ]; rfl) ?_))
  refine wpAnyL_take (i := 47) (v := ?_) rfl (by kernel_rfl) (fun _ _ _ h => h) (Or.inl ⟨by rfl, ?_⟩) (by assumption) ?_; rotate_left; (focus (intro w hSw; skip; go_simp; (try with_reducible rfl))); (try (refine wpAnyL_norm (by simp only [Act.put, List.setIfInBounds_toArray, List.set_cons_zero, List.set_cons_succ]; rfl) ?_))
  refine wpAnyL_take (i := 48) (v := ?_) rfl (by kernel_rfl) (fun _ _ _ h => h) (Or.inl ⟨by rfl, ?_⟩) (by assumption) ?_; rotate_left; (focus (intro w hSw; skip; go_simp; (try with_reducible rfl))); (try (refine wpAnyL_norm (by simp only [Act.put, List.setIfInBounds_toArray, List.set_cons_zero, List.set_cons_succ]; rfl) ?_))
  refine wpAnyL_take (i := 49) (v := ?_) rfl (by kernel_rfl) (fun _ _ _ h => h) (Or.inl ⟨by rfl, ?_⟩) (by assumption) ?_; rotate_left; (focus (intro w hSw; (have hcl := (cat_cell hSw.2.2 16 x H16.out).1; rw [HXC.out] at hcl; simp only [Nat.reduceMul] at hcl); go_simp; (try with_reducible rfl))); (try (refine wpAnyL_norm (by simp only [Act.put, List.setIfInBounds_toArray, List.set_cons_zero, List.set_cons_succ]; rfl) ?_))
  refine wpAnyL_take (i := 50) (v := ?_) rfl (by kernel_rfl) (fun _ _ _ h => h) (Or.inl ⟨by rfl, ?_⟩) (by assumption) ?_; rotate_left; (focus (intro w hSw; skip; go_simp; (try with_reducible rfl))); (try (refine wpAnyL_norm (by simp only [Act.put, List.setIfInBounds_toArray, List.set_cons_zero, List.set_cons_succ]; rfl) ?_))
  refine wpAnyL_take (i := 51) (v := ?_) rfl (by kernel_rfl) (fun _ _ _ h => h) (Or.inl ⟨by rfl, ?_⟩) (by assumption) ?_; rotate_left; (focus (intro w hSw; skip; go_simp; (try with_reducible rfl))); (try (refine wpAnyL_norm (by simp only [Act.put, List.setIfInBounds_toArray, List.set_cons_zero, List.set_cons_succ]; rfl) ?_))
  refine wpAnyL_take (i := 52) (v := ?_) rfl (by kernel_rfl) (fun _ _ _ h => h) (Or.inl ⟨by rfl, ?_⟩) (by assumption) ?_; rotate_left; (focus (intro w hSw; skip; go_simp; (try with_reducible rfl))); (try (refine wpAnyL_norm (by simp only [Act.put, List.setIfInBounds_toArray, List.set_cons_zero, List.set_cons_succ]; rfl) ?_))
  refine wpAnyL_take (i := 53) (v := ?_) rfl (by kernel_rfl) (fun _ _ _ h => h) (Or.inl ⟨by rfl, ?_⟩) (by assumption) ?_; rotate_left; (focus (intro w hSw; skip; go_simp; (try with_reducible rfl))); (try (refine wpAnyL_norm (by simp only [Act.put, List.setIfInBounds_toArray, List.set_cons_zero, List.set_cons_succ]; rfl) ?_))
  refine wpAnyL_take (i := 54) (v := ?_) rfl (by kernel_rfl) (fun _ _ _ h => h) (Or.inl ⟨by rfl, ?_⟩) (by assumption) ?_; rotate_left; (focus (intro w hSw; skip; go_simp; (try with_reducible rfl))); (try (refine wpAnyL_norm (by simp only [Act.put, List.setIfInBounds_toArray, List.set_cons_zero, List.set_cons_succ]; rfl) ?_))
  refine wpAnyL_take (i := 55) rfl (by kernel_rfl) (fun _ _ _ h => h) (yields_load_cap (.tmp 94) rfl q8 112 rfl 31 H (fun W h => h.2.2) 14 rfl y H14.out rfl) (by assumption) ?_; (try (refine wpAnyL_norm (by simp only [Act.put, List.setIfInBounds_toArray, List.set_cons_zero, List.set_cons_succ]; rfl) ?_))
  refine wpAnyL_take (i := 56) (v := ?_) rfl (by kernel_rfl) (fun _ _ _ h => h) (Or.inl ⟨by rfl, ?_⟩) (by assumption) ?_; rotate_left; (focus (intro w hSw; skip; go_simp; (try with_reducible rfl))); (try (refine wpAnyL_norm (by simp only [Act.put, List.setIfInBounds_toArray, List.set_cons_zero, List.set_cons_succ]; rfl) ?_))
  refine wpAnyL_take (i := 57) (v := ?_) rfl (by kernel_rfl) (fun _ _ _ h => h) (Or.inl ⟨by rfl, ?_⟩) (by assumption) ?_; rotate_left; (focus (intro w hSw; skip; go_simp; (try with_reducible rfl))); (try (refine wpAnyL_norm (by simp only [Act.put, List.setIfInBounds_toArray, List.set_cons_zero, List.set_cons_succ]; rfl) ?_))
  refine wpAnyL_take (i := 58) rfl (by kernel_rfl) (fun _ _ _ h => h) (yields_load_cap (.tmp 97) rfl q4 112 rfl 31 frL (fun W h => h.2.1) 14 rfl y F14.out rfl) (by assumption) ?_; (try (refine wpAnyL_norm (by simp only [Act.put, List.setIfInBounds_toArray, List.set_cons_zero, List.set_cons_succ]; rfl) ?_))
  refine wpAnyL_take (i := 59) (v := ?_) rfl (by kernel_rfl) (fun _ _ _ h => h) (Or.inl ⟨by rfl, ?_⟩) (by assumption) ?_; rotate_left; (focus (intro w hSw; skip; go_simp; (try with_reducible rfl))); (try (refine wpAnyL_norm (by simp only [Act.put, List.setIfInBounds_toArray, List.set_cons_zero, List.set_cons_succ]; rfl) ?_))
  refine wpAnyL_take (i := 60) (v := ?_) rfl (by kernel_rfl) (fun _ _ _ h => h) (Or.inl ⟨by rfl, ?_⟩) (by assumption) ?_; rotate_left; (focus (intro w hSw; skip; go_simp; (try with_reducible rfl))); (try (refine wpAnyL_norm (by simp only [Act.put, List.setIfInBounds_toArray, List.set_cons_zero, List.set_cons_succ]; rfl) ?_))
  refine wpAnyL_take (i := 61) (v := ?_) rfl (by kernel_rfl) (fun _ _ _ h => h) (Or.inl ⟨by rfl, ?_⟩) (by assumption) ?_; rotate_left; (focus (intro w hSw; skip; go_simp; (try with_reducible rfl))); (try (refine wpAnyL_norm (by simp only [Act.put, List.setIfInBounds_toArray, List.set_cons_zero, List.set_cons_succ]; rfl) ?_))
  refine wpAnyL_take (i := 62) (v := ?_) rfl (by kernel_rfl) (fun _ _ _ h => h) (Or.inl ⟨by rfl, ?_⟩) (by assumption) ?_; rotate_left; (focus (intro w hSw; skip; go_simp; (try with_reducible rfl))); (try (refine wpAnyL_norm (by simp only [Act.put, List.setIfInBounds_toArray, List.set_cons_zero, List.set_cons_succ]; rfl) ?_))
  refine wpAnyL_take (i := 63) (v := ?_) rfl (by kernel_rfl) (fun _ _ _ h => h) (Or.inl ⟨by rfl, ?_⟩) (by assumption) ?_; rotate_left; (focus (intro w hSw; skip; go_simp; (try with_reducible rfl))); (try (refine wpAnyL_norm (by simp only [Act.put, List.setIfInBounds_toArray, List.set_cons_zero, List.set_cons_succ]; rfl) ?_))
  refine wpAnyL_take (i := 64) rfl (by kernel_rfl) (fun _ _ _ h => h) (yields_load_cap (.tmp 103) rfl q8 120 rfl 31 H (fun W h => h.2.2) 15 rfl z H15.out rfl) (by assumption) ?_; (try (refine wpAnyL_norm (by simp only [Act.put, List.setIfInBounds_toArray, List.set_cons_zero, List.set_cons_succ]; rfl) ?_))
  refine wpAnyL_take (i := 65) (v := ?_) rfl (by kernel_rfl) (fun _ _ _ h => h) (Or.inl ⟨by rfl, ?_⟩) (by assumption) ?_; rotate_left; (focus (intro w hSw; skip; go_simp; (try with_reducible rfl))); (try (refine wpAnyL_norm (by simp only [Act.put, List.setIfInBounds_toArray, List.set_cons_zero, List.set_cons_succ]; rfl) ?_))
  refine wpAnyL_take (i := 66) (v := ?_) rfl (by kernel_rfl) (fun _ _ _ h => h) (Or.inl ⟨by rfl, ?_⟩) (by assumption) ?_; rotate_left; (focus (intro w hSw; skip; go_simp; (try with_reducible rfl))); (try (refine wpAnyL_norm (by simp only [Act.put, List.setIfInBounds_toArray, List.set_cons_zero, List.set_cons_succ]; rfl) ?_))
  refine wpAnyL_take (i := 67) rfl (by kernel_rfl) (fun _ _ _ h => h) (yields_load_cap (.tmp 106) rfl q4 120 rfl 31 frL (fun W h => h.2.1) 15 rfl z F15.out rfl) (by assumption) ?_; (try (refine wpAnyL_norm (by simp only [Act.put, List.setIfInBounds_toArray, List.set_cons_zero, List.set_cons_succ]; rfl) ?_))
  refine wpAnyL_take (i := 68) (v := ?_) rfl (by kernel_rfl) (fun _ _ _ h => h) (Or.inl ⟨by rfl, ?_⟩) (by assumption) ?_; rotate_left; (focus (intro w hSw; skip; go_simp; (try with_reducible rfl))); (try (refine wpAnyL_norm (by simp only [Act.put, List.setIfInBounds_toArray, List.set_cons_zero, List.set_cons_succ]; rfl) ?_))
  refine wpAnyL_take (i := 69) (v := ?_) rfl (by kernel_rfl) (fun _ _ _ h => h) (Or.inl ⟨by rfl, ?_⟩) (by assumption) ?_; rotate_left; (focus (intro w hSw; skip; go_simp; (try with_reducible rfl))); (try (refine wpAnyL_norm (by simp only [Act.put, List.setIfInBounds_toArray, List.set_cons_zero, List.set_cons_succ]; rfl) ?_))
  refine wpAnyL_take (i := 70) (v := ?_) rfl (by kernel_rfl) (fun _ _ _ h => h) (Or.inl ⟨by rfl, ?_⟩) (by assumption) ?_; rotate_left; (focus (intro w hSw; skip; go_simp; (try with_reducible rfl))); (try (refine wpAnyL_norm (by simp only [Act.put, List.setIfInBounds_toArray, List.set_cons_zero, List.set_cons_succ]; rfl) ?_))
  refine wpAnyL_take (i := 71) (v := ?_) rfl (by kernel_rfl) (fun _ _ _ h => h) (Or.inl ⟨by rfl, ?_⟩) (by assumption) ?_; rotate_left; (focus (intro w hSw; skip; go_simp; (try with_reducible rfl))); (try (refine wpAnyL_norm (by simp only [Act.put, List.setIfInBounds_toArray, List.set_cons_zero, List.set_cons_succ]; rfl) ?_))
  refine wpAnyL_take (i := 72) (v := ?_) rfl (by kernel_rfl) (fun _ _ _ h => h) (Or.inl ⟨by rfl, ?_⟩) (by assumption) ?_; rotate_left; (focus (intro w hSw; skip; go_simp; (try with_reducible rfl))); (try (refine wpAnyL_norm (by simp only [Act.put, List.setIfInBounds_toArray, List.set_cons_zero, List.set_cons_succ]; rfl) ?_))
  refine wpAnyL_take (i := 73) (v := ?_) rfl (by kernel_rfl) (fun _ _ _ h => h) (Or.inl ⟨by rfl, ?_⟩) (by assumption) ?_; rotate_left; (focus (intro w hSw; skip; go_simp; (try with_reducible rfl))); (try (refine wpAnyL_norm (by simp only [Act.put, List.setIfInBounds_toArray, List.set_cons_zero, List.set_cons_succ]; rfl) ?_))
  refine wpAnyL_take (i := 74) (v := ?_) rfl (by kernel_rfl) (fun _ _ _ h => h) (Or.inl ⟨by rfl, ?_⟩) (by assumption) ?_; rotate_left; (focus (intro w hSw; skip; go_simp; (try with_reducible rfl))); (try (refine wpAnyL_norm (by simp only [Act.put, List.setIfInBounds_toArray, List.set_cons_zero, List.set_cons_succ]; rfl) ?_))
  refine wpAnyL_done (by kernel_rfl) ?_ _
  go_wp2_with fail
  go_ret
  exact ⟨rfl, ((((F10'.out.trans0 ((hf11.trans0 hf12).hd rfl rfl rfl rfl)).trans0 hf13).trans0 hf14))⟩
end Go.Proofs.Ytdfefnajhnlpdaa
