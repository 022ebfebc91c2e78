/-
  The reference's capabilities from bytes. Condition: numbers in their types' ranges.
-/



import Derived.Test.YtilgklpponaoeaaRefBytes
set_option linter.unusedVariables false
namespace Go.Proofs.Ytilgklpponaoeaa
open Go.ChangeShapes Go.WideShapes Go.ChangeAt Go.RowKit
theorem unle_snoc : ∀ (l : List Nat) (b : Nat), unle (l ++ [b]) = unle l + 256 ^ l.length * b
  | [], b => by simp [unle]
  | a :: l, b => by
    have ih := unle_snoc l b
    rw [List.cons_append, unle, ih, unle, List.length_cons, Nat.pow_succ, Nat.mul_add, Nat.mul_comm (256 ^ l.length) 256, Nat.mul_assoc, Nat.add_assoc]
theorem or_low (n b k : Nat) (hn : n < 2 ^ k) (h : b * 2 ^ k + n < 4294967296) : bits .or .u32 (n : Int) ((b * 2 ^ k : Nat) : Int) = ((n + b * 2 ^ k : Nat) : Int) := by
  rw [u32_or_nat _ _ (by omega) (by omega), Nat.or_comm, Nat.mul_comm b, ← Nat.two_pow_add_eq_or_of_lt hn, Nat.add_comm]
theorem sub_snoc (l : List Nat) (p j b : Nat) (h : l[p + j]? = some b) : sub l p (j + 1) = sub l p j ++ [b] := by
  unfold sub
  rw [List.take_add_one, List.getElem?_drop, h]; rfl
theorem sub_len (l : List Nat) (p j : Nat) (h : p + j ≤ l.length) : (sub l p j).length = j := by unfold sub; rw [List.length_take, List.length_drop]; omega
theorem sub_byt (l : List Nat) (p j : Nat) (h : Byt l) : Byt (sub l p j) := (h.drop p).take j
theorem tk_or (l : List Nat) (hb : Byt l) (p j b : Nat) (h : l[p + j]? = some b) (hj : j < 4) : bits .or .u32 ((unle (sub l p j) : Nat) : Int) ((b * 256 ^ j : Nat) : Int) = ((unle (sub l p (j + 1)) : Nat) : Int) := by
  have hlt := (List.getElem?_eq_some_iff.1 h).1
  have hl := sub_len l p j (by omega)
  have h1 := unle_lt _ (sub_byt l p j hb)
  have h2 := hb.at_ _ _ h
  rw [hl] at h1
  rw [sub_snoc l p j b h, unle_snoc, hl]
  have e : (256 : Nat) ^ j = 2 ^ (8 * j) := by rw [Nat.pow_mul]
  rw [e] at h1 ⊢
  have h3 : b * 2 ^ (8 * j) + unle (sub l p j) < 4294967296 := by
    have h4 : (b + 1) * 2 ^ (8 * j) ≤ 256 * 2 ^ (8 * j) := Nat.mul_le_mul_right _ (by omega)
    have h5 : (2 : Nat) ^ (8 * j) ≤ 16777216 := by
      rcases (show j = 0 ∨ j = 1 ∨ j = 2 ∨ j = 3 by omega) with rfl | rfl | rfl | rfl <;> decide
    rw [Nat.add_mul] at h4
    omega
  rw [or_low _ _ _ h1 h3, Nat.mul_comm b]
theorem BS_at (l : List Nat) (hb : Byt l) (i b : Nat) (hi : l[i]? = some b) (h : i < (BS l).size) : ((BS l)[i]'h).toNat = b := by
  obtain ⟨h1, h2⟩ := List.getElem?_eq_some_iff.1 hi
  have e : (BS l)[i]'h = UInt8.ofNat l[i] := by
    show ((l.map UInt8.ofNat).toArray)[i]'(by simpa using h1) = _
    rw [List.getElem_toArray, List.getElem_map]
  rw [e, u8_back _ (hb _ (List.getElem_mem h1)), h2]
set_option maxHeartbeats 1000000 in
set_option maxRecDepth 100000 in
theorem rtaken_any (w : World) (l : List Nat) (hb : Byt l) (p k : Nat) (hk : k ≤ 4) (ha : p + k ≤ l.length) (hl : l.length ≤ 1000) :
    Calls Try.prog 98 #[strV l, .int .i64 p, .int .i64 k] w fun r w' => r = .returned (.int .u32 (unle (sub l p k) : Nat)) ∧ w = w' := by
  have HB := Lib.hid hb
  have hsz := BS_size l
  unfold strV
  obtain ⟨n, hn⟩ : ∃ n, l.length = n := ⟨_, rfl⟩
  have HN := Lib.hid hn
  rw [hn] at ha hl hsz
  have HIX := Lib.hid (fun i b (hi : l[i]? = some b) (h : i < (BS l).size) => BS_at l hb i b hi h)
  obtain ⟨S, hS⟩ : ∃ S, BS l = S := ⟨_, rfl⟩
  rw [hS] at hsz HIX ⊢
  clear hb hS hn
  have hsb : S.size ≤ 1000 := by omega
  go_enter Try.func98, Try.ntmps98
  go_wp2_with fail
  go_loopw [7, 8] (fun v i wr => ∃ j : Nat, j ≤ k ∧ i = .int .i64 j ∧ v = .int .u32 (unle (sub l p j) : Nat) ∧ w = wr) (fun _ i _ => k - (intOf i).toNat)
  case atStart => exact ⟨0, by omega, rfl, rfl, rfl⟩
  case round =>
    obtain ⟨j, hj, rfl, rfl, rfl⟩ := hrel
    by_cases hjk : j < k
    · obtain ⟨b, hlb⟩ : ∃ b, l[p + j]? = some b := ⟨_, List.getElem?_eq_getElem (by rw [HN.out]; omega)⟩
      have hix := HIX.out (p + j) b hlb
      have hb8 := HB.out.at_ _ _ hlb
      have HV := Lib.hid (tk_or l HB.out p j b hlb (by omega))
      clear hlb
      rcases (show j = 0 ∨ j = 1 ∨ j = 2 ∨ j = 3 by omega) with rfl | rfl | rfl | rfl
      · simp only [Nat.add_zero] at hix
        have HV' := Lib.hid (show bits .or .u32 ((unle (sub l p 0) : Nat) : Int) (b : Int) = ((unle (sub l p (0 + 1)) : Nat) : Int) from by rw [← HV.out]; simp)
        go_wp2_with fail
        go_roundw
        case rel => exact ⟨0 + 1, by omega, rfl, by rw [← HV'.out], trivial⟩
        case measure => simp [intOf] <;> omega
      · have HV' := Lib.hid (show bits .or .u32 ((unle (sub l p 1) : Nat) : Int) ((b : Int) * 256) = ((unle (sub l p (1 + 1)) : Nat) : Int) from by rw [← HV.out]; simp)
        go_wp2_with fail
        go_roundw
        case rel => exact ⟨1 + 1, by omega, rfl, by rw [← HV'.out], trivial⟩
        case measure => simp [intOf] <;> omega
      · have HV' := Lib.hid (show bits .or .u32 ((unle (sub l p 2) : Nat) : Int) ((b : Int) * 65536) = ((unle (sub l p (2 + 1)) : Nat) : Int) from by rw [← HV.out]; simp)
        go_wp2_with fail
        go_roundw
        case rel => exact ⟨2 + 1, by omega, rfl, by rw [← HV'.out], trivial⟩
        case measure => simp [intOf] <;> omega
      · have HV' := Lib.hid (show bits .or .u32 ((unle (sub l p 3) : Nat) : Int) ((b : Int) * 16777216) = ((unle (sub l p (3 + 1)) : Nat) : Int) from by rw [← HV.out]; simp)
        go_wp2_with fail
        go_roundw
        case rel => exact ⟨3 + 1, by omega, rfl, by rw [← HV'.out], trivial⟩
        case measure => simp [intOf] <;> omega
    · obtain rfl : j = k := by omega
      go_wp2_with fail
      go_ret
      exact ⟨rfl, rfl⟩
theorem rs_three (l : List Nat) (hb : Byt l) (hl : l.length = 16) : unle (sub l 13 3) = fld l 13 2 + 65536 * fld l 15 1 := by
  obtain ⟨b13, h13⟩ : ∃ b, l[13]? = some b := ⟨_, List.getElem?_eq_getElem (by omega)⟩
  obtain ⟨b14, h14⟩ : ∃ b, l[14]? = some b := ⟨_, List.getElem?_eq_getElem (by omega)⟩
  obtain ⟨b15, h15⟩ : ∃ b, l[15]? = some b := ⟨_, List.getElem?_eq_getElem (by omega)⟩
  have s0 : ∀ p, sub l p 0 = [] := fun p => by unfold sub; simp
  have e3 : sub l 13 3 = [b13, b14, b15] := by rw [sub_snoc l 13 2 b15 h15, sub_snoc l 13 1 b14 h14, sub_snoc l 13 0 b13 h13, s0]; rfl
  have e2 : sub l 13 2 = [b13, b14] := by rw [sub_snoc l 13 1 b14 h14, sub_snoc l 13 0 b13 h13, s0]; rfl
  have e1 : sub l 15 1 = [b15] := by rw [sub_snoc l 15 0 b15 h15, s0]; rfl
  show _ = unle (sub l 13 2) + 65536 * unle (sub l 15 1)
  rw [e3, e2, e1]
  simp only [unle]
  omega
set_option maxHeartbeats 2000000 in
set_option maxRecDepth 100000 in
theorem rof_any (w : World) (l : List Nat) (hb : Byt l) (hl : l.length = 16) (v : Bool) : Calls Try.prog 77 #[strV l, .bool v] w fun r w' => r = .returned (.tuple #[.agg (ofB l v).cells, .bool true]) ∧ Fr [] w w' := by
  have T0 := Lib.hid fun W => rtaken_any W l hb 0 4 (by omega) (by omega) (by omega)
  have T1 := Lib.hid fun W => rtaken_any W l hb 4 1 (by omega) (by omega) (by omega)
  have T2 := Lib.hid fun W => rtaken_any W l hb 5 2 (by omega) (by omega) (by omega)
  have T3 := Lib.hid fun W => rtaken_any W l hb 7 2 (by omega) (by omega) (by omega)
  have T4 := Lib.hid fun W => rtaken_any W l hb 9 2 (by omega) (by omega) (by omega)
  have T5 := Lib.hid fun W => rtaken_any W l hb 11 2 (by omega) (by omega) (by omega)
  have T6 := Lib.hid fun W => rtaken_any W l hb 13 3 (by omega) (by omega) (by omega)
  have b0 := unle_lt _ (sub_byt l 0 4 hb)
  have b1 := unle_lt _ (sub_byt l 4 1 hb)
  have b2 := unle_lt _ (sub_byt l 5 2 hb)
  have b3 := unle_lt _ (sub_byt l 7 2 hb)
  have b4 := unle_lt _ (sub_byt l 9 2 hb)
  have b5 := unle_lt _ (sub_byt l 11 2 hb)
  have b6 := unle_lt _ (sub_byt l 13 3 hb)
  rw [sub_len l _ _ (by omega)] at b0 b1 b2 b3 b4 b5 b6
  have HR := rs_three l hb hl
  have HO : ofB0 l = ⟨unle (sub l 0 4), unle (sub l 4 1), unle (sub l 5 2), unle (sub l 7 2), unle (sub l 9 2), unle (sub l 11 2), unle (sub l 13 3), false⟩ := by unfold ofB0; rw [HR]; rfl
  obtain ⟨x0, h0⟩ : ∃ x, unle (sub l 0 4) = x := ⟨_, rfl⟩
  obtain ⟨x1, h1⟩ : ∃ x, unle (sub l 4 1) = x := ⟨_, rfl⟩
  obtain ⟨x2, h2⟩ : ∃ x, unle (sub l 5 2) = x := ⟨_, rfl⟩
  obtain ⟨x3, h3⟩ : ∃ x, unle (sub l 7 2) = x := ⟨_, rfl⟩
  obtain ⟨x4, h4⟩ : ∃ x, unle (sub l 9 2) = x := ⟨_, rfl⟩
  obtain ⟨x5, h5⟩ : ∃ x, unle (sub l 11 2) = x := ⟨_, rfl⟩
  obtain ⟨x6, h6⟩ : ∃ x, unle (sub l 13 3) = x := ⟨_, rfl⟩
  rw [h0, h1, h2, h3, h4, h5, h6] at HO
  rw [h0] at T0 b0
  rw [h1] at T1 b1
  rw [h2] at T2 b2
  rw [h3] at T3 b3
  rw [h4] at T4 b4
  rw [h5] at T5 b5
  rw [h6] at T6 b6
  have HE := Lib.hid (show (ofB l v).cells = #[.int .u32 x0, .int .u8 x1, .int .u16 x2, .int .u16 x3, .int .u16 x4, .int .u16 x5, .int .u32 x6, .bool (v && soundB ⟨x0, x1, x2, x3, x4, x5, x6, false⟩)] from by unfold ofB; rw [HO]; rfl)
  have CS := Lib.hid fun W => (show Calls Try.prog 58 #[.agg #[.int .u32 x0, .int .u8 x1, .int .u16 x2, .int .u16 x3, .int .u16 x4, .int .u16 x5, .int .u32 x6, .bool false]] W fun r w' => r = .returned (.bool (soundB ⟨x0, x1, x2, x3, x4, x5, x6, false⟩)) ∧ Fr [] W w' from rsound_any W ⟨x0, x1, x2, x3, x4, x5, x6, false⟩)
  obtain ⟨sb, hsb⟩ : ∃ sb, soundB ⟨x0, x1, x2, x3, x4, x5, x6, false⟩ = sb := ⟨_, rfl⟩
  rw [hsb] at HE CS
  rw [HE.out]
  have hsz : (BS l).size = 16 := by rw [BS_size, hl]
  unfold strV at *
  obtain ⟨S, hS⟩ : ∃ S, BS l = S := ⟨_, rfl⟩
  rw [hS] at T0 T1 T2 T3 T4 T5 T6 hsz
  rw [hS]
  have c1 : x1 < 256 := b1
  have c2 : x2 < 65536 := b2
  have c3 : x3 < 65536 := b3
  have c4 : x4 < 65536 := b4
  have c5 : x5 < 65536 := b5
  have c0 : x0 < 4294967296 := b0
  have c6 : x6 < 16777216 := b6
  have hss : (S.size : Int) = 16 := by omega
  clear h0 h1 h2 h3 h4 h5 h6 hsb HR HO hS hb hl b0 b1 b2 b3 b4 b5 b6 hsz
  obtain ⟨w1, hw1⟩ : ∃ W, w.alloc (.cells #[.int .u32 0, .int .u8 0, .int .u16 0, .int .u16 0, .int .u16 0, .int .u16 0, .int .u32 0, .bool false] 38) = W := ⟨_, rfl⟩
  have A1 := At.new w 38 #[.int .u32 0, .int .u8 0, .int .u16 0, .int .u16 0, .int .u16 0, .int .u16 0, .int .u32 0, .bool false]
  have F1 : Fr [] w (w.alloc (.cells #[.int .u32 0, .int .u8 0, .int .u16 0, .int .u16 0, .int .u16 0, .int .u16 0, .int .u32 0, .bool false] 38)) := (by repeat (first | exact Fr.refl _ _ | assumption | refine Fr.trans0 ?_ (by assumption) | refine Fr.drewN ?_ _ | refine Fr.alloc ?_ _ | refine Fr.drew ?_))
  have hs1 : w1.heap.size = w.heap.size + 1 := by rw [← hw1]; exact World.size_alloc _ _
  rw [hw1] at A1 F1
  have HA1 := Lib.hid A1
  have HF1 := Lib.hid F1
  have HW1 := Lib.hid hw1
  clear A1 F1 hw1
  go_enter Try.func77, Try.ntmps77
  go_wp2_with fail
  rw [HW1.out]
  refine (T0.out _).mono ?_
  rintro e w' ⟨rfl, rfl⟩
  go_wp2_with fail
  refine (T1.out _).mono ?_
  rintro e w' ⟨rfl, rfl⟩
  go_wp2_with fail
  refine (T2.out _).mono ?_
  rintro e w' ⟨rfl, rfl⟩
  go_wp2_with fail
  refine (T3.out _).mono ?_
  rintro e w' ⟨rfl, rfl⟩
  go_wp2_with fail
  refine (T4.out _).mono ?_
  rintro e w' ⟨rfl, rfl⟩
  go_wp2_with fail
  refine (T5.out _).mono ?_
  rintro e w' ⟨rfl, rfl⟩
  go_wp2_with fail
  refine (T6.out _).mono ?_
  rintro e w' ⟨rfl, rfl⟩
  go_upto_region 4 with (fail)
  have A2 := HA1.out.old (.cells #[.int .u32 x0, .int .u8 x1, .int .u16 x2, .int .u16 x3, .int .u16 x4, .int .u16 x5, .int .u32 x6, .bool false] 38)
  have B2 := At.new w1 38 #[.int .u32 x0, .int .u8 x1, .int .u16 x2, .int .u16 x3, .int .u16 x4, .int .u16 x5, .int .u32 x6, .bool false]
  have F2 : Fr [] w (w1.alloc (.cells #[.int .u32 x0, .int .u8 x1, .int .u16 x2, .int .u16 x3, .int .u16 x4, .int .u16 x5, .int .u32 x6, .bool false] 38)) := HF1.out.alloc _
  obtain ⟨w2, hw2⟩ : ∃ W, w1.alloc (.cells #[.int .u32 x0, .int .u8 x1, .int .u16 x2, .int .u16 x3, .int .u16 x4, .int .u16 x5, .int .u32 x6, .bool false] 38) = W := ⟨_, rfl⟩
  rw [hw2] at A2 B2 F2
  rw [hs1] at B2
  have HA2 := Lib.hid A2
  have HB2 := Lib.hid B2
  have HF2 := Lib.hid F2
  have HW2 := Lib.hid hw2
  clear A2 B2 F2 hw2 HA1 HF1 T0 T1 T2 T3 T4 T5 T6
  rw [HW2.out]
  have HI := Lib.hid (show (Try.prog.info? 38).map (·.size) = some 8 by kernel_rfl)
  cases v with
  | false =>
    have c7' := (HB2.out).cell 7
    have z7 := (HB2.out).froz 7
    simp only [List.getElem?_toArray, List.getElem?_cons_zero, List.getElem?_cons_succ] at c7'
    have B5 : At ((w2).setCell ⟨w.heap.size + 1, 7, none⟩ (.bool false)) (w.heap.size + 1) 38 #[.int .u32 x0, .int .u8 x1, .int .u16 x2, .int .u16 x3, .int .u16 x4, .int .u16 x5, .int .u32 x6, .bool false] := (HB2.out).set 7 (.bool false)
    have A5 := (HA2.out).far (a := ⟨w.heap.size + 1, 7, none⟩) (by simp) (.bool false)
    have F5 := (HF2.out).set (a := ⟨w.heap.size + 1, 7, none⟩) (.inr (by simp)) (.bool false)
    obtain ⟨w5, hw5⟩ : ∃ W, (w2).setCell ⟨w.heap.size + 1, 7, none⟩ (.bool false) = W := ⟨_, rfl⟩
    rw [hw5] at B5 A5 F5
    have HA5 := Lib.hid A5
    have HB5 := Lib.hid B5
    have HF5 := Lib.hid F5
    have HW5 := Lib.hid hw5
    clear A5 B5 F5 hw5
    go_upto_region 5 with (fail)
    rw [HW5.out]
    go_wp2_with (first | (refine wpList_load_all (by rfl) 38 (.tmp 6) rfl (w.heap.size + 1) rfl 38 #[.int .u32 x0, .int .u8 x1, .int .u16 x2, .int .u16 x3, .int .u16 x4, .int .u16 x5, .int .u32 x6, .bool false] _ HB5.out Try.underlying38 rfl HI.out ?_) | (refine wpList_store_all (by rfl) 38 (.tmp 4) (.tmp 37) rfl w.heap.size #[.int .u32 x0, .int .u8 x1, .int .u16 x2, .int .u16 x3, .int .u16 x4, .int .u16 x5, .int .u32 x6, .bool false] rfl rfl 38 #[.int .u32 0, .int .u8 0, .int .u16 0, .int .u16 0, .int .u16 0, .int .u16 0, .int .u32 0, .bool false] HA5.out HI.out rfl (by simp [Value.oneCell']) ?_; intro w9 hA9 hF9))
    exact bodyPost_ret (res_row_tmp rfl _ _ w.heap.size 38 _ _ rfl hA9 Try.underlying38 rfl HI.out) rfl ⟨rfl, HF5.out.trans hF9 (by simp)⟩
  | true =>
    go_wp2_with (refine wpList_load_all (by rfl) 38 (.tmp 6) rfl (w.heap.size + 1) rfl 38 #[.int .u32 x0, .int .u8 x1, .int .u16 x2, .int .u16 x3, .int .u16 x4, .int .u16 x5, .int .u32 x6, .bool false] _ HB2.out Try.underlying38 rfl HI.out ?_)
    refine (CS.out _).mono ?_
    rintro e w3 ⟨rfl, hf3⟩
    have HA3 := Lib.hid (HA2.out.fr hf3 (by simp))
    have HB3 := Lib.hid (HB2.out.fr hf3 (by simp))
    have HF3 := Lib.hid (HF2.out.trans0 hf3)
    clear hf3 HA2 HB2 HF2 CS
    have c7' := (HB3.out).cell 7
    have z7 := (HB3.out).froz 7
    simp only [List.getElem?_toArray, List.getElem?_cons_zero, List.getElem?_cons_succ] at c7'
    have B5 : At ((w3).setCell ⟨w.heap.size + 1, 7, none⟩ (.bool sb)) (w.heap.size + 1) 38 #[.int .u32 x0, .int .u8 x1, .int .u16 x2, .int .u16 x3, .int .u16 x4, .int .u16 x5, .int .u32 x6, .bool sb] := (HB3.out).set 7 (.bool sb)
    have A5 := (HA3.out).far (a := ⟨w.heap.size + 1, 7, none⟩) (by simp) (.bool sb)
    have F5 := (HF3.out).set (a := ⟨w.heap.size + 1, 7, none⟩) (.inr (by simp)) (.bool sb)
    obtain ⟨w5, hw5⟩ : ∃ W, (w3).setCell ⟨w.heap.size + 1, 7, none⟩ (.bool sb) = W := ⟨_, rfl⟩
    rw [hw5] at B5 A5 F5
    have HA5 := Lib.hid A5
    have HB5 := Lib.hid B5
    have HF5 := Lib.hid F5
    have HW5 := Lib.hid hw5
    clear A5 B5 F5 hw5
    go_upto_region 5 with (fail)
    rw [HW5.out]
    go_wp2_with (first | (refine wpList_load_all (by rfl) 38 (.tmp 6) rfl (w.heap.size + 1) rfl 38 #[.int .u32 x0, .int .u8 x1, .int .u16 x2, .int .u16 x3, .int .u16 x4, .int .u16 x5, .int .u32 x6, .bool sb] _ HB5.out Try.underlying38 rfl HI.out ?_) | (refine wpList_store_all (by rfl) 38 (.tmp 4) (.tmp 37) rfl w.heap.size #[.int .u32 x0, .int .u8 x1, .int .u16 x2, .int .u16 x3, .int .u16 x4, .int .u16 x5, .int .u32 x6, .bool sb] rfl rfl 38 #[.int .u32 0, .int .u8 0, .int .u16 0, .int .u16 0, .int .u16 0, .int .u16 0, .int .u32 0, .bool false] HA5.out HI.out rfl (by simp [Value.oneCell']) ?_; intro w9 hA9 hF9))
    exact bodyPost_ret (res_row_tmp rfl _ _ w.heap.size 38 _ _ rfl hA9 Try.underlying38 rfl HI.out) rfl ⟨rfl, HF5.out.trans hF9 (by simp)⟩
end Go.Proofs.Ytilgklpponaoeaa
