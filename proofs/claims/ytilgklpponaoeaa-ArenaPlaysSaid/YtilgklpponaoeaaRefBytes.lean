/-
  The reference's capabilities as bytes, and back. Condition: numbers in their types' ranges.
-/



import Derived.Test.YtilgklpponaoeaaSub
import Derived.Test.YtilgklpponaoeaaLists
set_option linter.unusedVariables false
namespace Go.Proofs.Ytilgklpponaoeaa
open Go.ChangeShapes Go.WideShapes Go.ChangeAt Go.RowKit
set_option maxHeartbeats 1000000 in
set_option maxRecDepth 100000 in
theorem rsound_any (w : World) (c : Cp) : Calls Try.prog 58 #[.agg c.cells] w fun r w' => r = .returned (.bool (soundB c)) ∧ Fr [] w w' := by
  have A0 := At.new w 38 c.cells
  have HF := Lib.hid (show Fr [] w (w.alloc (.cells c.cells 38)) from (by repeat (first | exact Fr.refl _ _ | assumption | refine Fr.trans0 ?_ (by assumption) | refine Fr.drewN ?_ _ | refine Fr.alloc ?_ _ | refine Fr.drew ?_)))
  have c1 := A0.cell 1
  have c2 := A0.cell 2
  have c3 := A0.cell 3
  have c4 := A0.cell 4
  have c5 := A0.cell 5
  have c6 := A0.cell 6
  obtain ⟨cur, e, b, t, pm, ty, rs, v⟩ := c
  unfold Cp.cells at *
  simp only [List.getElem?_toArray, List.getElem?_cons_zero, List.getElem?_cons_succ] at c1 c2 c3 c4 c5 c6
  clear A0
  by_cases h0 : e < 22
  · have d0 : decide ((e : Int) ≤ 21) = true := decide_eq_true (by omega)
    by_cases h1 : b < 4096
    · have d1 : decide ((b : Int) < 4096) = true := decide_eq_true (by omega)
      by_cases h2 : t < 4096
      · have d2 : decide ((t : Int) < 4096) = true := decide_eq_true (by omega)
        by_cases h3 : pm < 256
        · have d3 : decide ((pm : Int) ≤ 255) = true := decide_eq_true (by omega)
          by_cases h4 : ty < 4096
          · have d4 : decide ((ty : Int) < 4096) = true := decide_eq_true (by omega)
            by_cases h5 : rs < 16777216
            · have d5 : decide ((rs : Int) < 16777216) = true := decide_eq_true (by omega)
              have hs : soundB ⟨cur, e, b, t, pm, ty, rs, v⟩ = true := (soundB_iff _).2 ⟨h0, h1, h2, h3, h4, h5⟩
              rw [hs]
              clear hs h0 h1 h2 h3 h4 h5
              go_enter Try.func58, Try.ntmps58
              go_wp2_with fail
              go_ret
              exact ⟨rfl, HF.out⟩
            · have d5 : decide ((rs : Int) < 16777216) = false := decide_eq_false (by omega)
              have hs : soundB ⟨cur, e, b, t, pm, ty, rs, v⟩ = false := by rw [← Bool.not_eq_true, soundB_iff]; rintro ⟨s0, s1, s2, s3, s4, s5⟩; dsimp only at *; omega
              rw [hs]
              clear hs h0 h1 h2 h3 h4 h5
              go_enter Try.func58, Try.ntmps58
              go_wp2_with fail
              go_ret
              exact ⟨rfl, HF.out⟩
          · have d4 : decide ((ty : Int) < 4096) = false := decide_eq_false (by omega)
            have hs : soundB ⟨cur, e, b, t, pm, ty, rs, v⟩ = false := by rw [← Bool.not_eq_true, soundB_iff]; rintro ⟨s0, s1, s2, s3, s4, s5⟩; dsimp only at *; omega
            rw [hs]
            clear hs h0 h1 h2 h3 h4
            go_enter Try.func58, Try.ntmps58
            go_wp2_with fail
            go_ret
            exact ⟨rfl, HF.out⟩
        · have d3 : decide ((pm : Int) ≤ 255) = false := decide_eq_false (by omega)
          have hs : soundB ⟨cur, e, b, t, pm, ty, rs, v⟩ = false := by rw [← Bool.not_eq_true, soundB_iff]; rintro ⟨s0, s1, s2, s3, s4, s5⟩; dsimp only at *; omega
          rw [hs]
          clear hs h0 h1 h2 h3
          go_enter Try.func58, Try.ntmps58
          go_wp2_with fail
          go_ret
          exact ⟨rfl, HF.out⟩
      · have d2 : decide ((t : Int) < 4096) = false := decide_eq_false (by omega)
        have hs : soundB ⟨cur, e, b, t, pm, ty, rs, v⟩ = false := by rw [← Bool.not_eq_true, soundB_iff]; rintro ⟨s0, s1, s2, s3, s4, s5⟩; dsimp only at *; omega
        rw [hs]
        clear hs h0 h1 h2
        go_enter Try.func58, Try.ntmps58
        go_wp2_with fail
        go_ret
        exact ⟨rfl, HF.out⟩
    · have d1 : decide ((b : Int) < 4096) = false := decide_eq_false (by omega)
      have hs : soundB ⟨cur, e, b, t, pm, ty, rs, v⟩ = false := by rw [← Bool.not_eq_true, soundB_iff]; rintro ⟨s0, s1, s2, s3, s4, s5⟩; dsimp only at *; omega
      rw [hs]
      clear hs h0 h1
      go_enter Try.func58, Try.ntmps58
      go_wp2_with fail
      go_ret
      exact ⟨rfl, HF.out⟩
  · have d0 : decide ((e : Int) ≤ 21) = false := decide_eq_false (by omega)
    have hs : soundB ⟨cur, e, b, t, pm, ty, rs, v⟩ = false := by rw [← Bool.not_eq_true, soundB_iff]; rintro ⟨s0, s1, s2, s3, s4, s5⟩; dsimp only at *; omega
    rw [hs]
    clear hs h0
    go_enter Try.func58, Try.ntmps58
    go_wp2_with fail
    go_ret
    exact ⟨rfl, HF.out⟩
theorem built1b (w : World) (x : Int) : (Instr.buildSlice 31 1 #[(0, .int .u8 x)]).run Try.prog w = .ok (.slice (some ⟨w.heap.size, 0, none⟩) 1 1) (w.alloc (.cells #[.int .u8 x] 5)) := by kernel_rfl
theorem infoU8b : (Try.prog.info? 5).map (fun i => (i.zero, i.size, i.bytes)) = some (some (.int .u8 0), 1, 1) := by kernel_rfl
theorem le_snoc : ∀ (k v : Nat), le (k + 1) v = le k v ++ [v / 256 ^ k % 256]
  | 0, v => by simp [le]
  | k + 1, v => by
    have ih := le_snoc k (v / 256)
    rw [le, ih, le, List.cons_append, Nat.div_div_eq_div_mul, Nat.pow_succ, Nat.mul_comm (256 ^ k) 256]
theorem le_put (l : List Nat) (k n : Nat) : bys (l ++ le k n) ++ [.int .u8 ((n / 256 ^ k % 256 : Nat) : Int)] = bys (l ++ le (k + 1) n) := by
  rw [le_snoc, ← List.append_assoc, bys_append (l ++ le k n)]; rfl
set_option maxHeartbeats 1000000 in
set_option maxRecDepth 100000 in
theorem rlaid_any (w0 w : World) (hf : Fr [] w0 w) (v : Value) (l : List Nat) (hv : w.ownsRow w0.heap.size 5 1 v l.length (bys l)) (hl : l.length ≤ 100) (n k : Nat) (hn : n < 4294967296) (hk : k ≤ 4) :
    Calls Try.prog 81 #[v, .int .u32 n, .int .i64 k] w fun e w' => ∃ v', e = .returned v' ∧ w'.ownsRow w0.heap.size 5 1 v' (l.length + k) (bys (l ++ le k n)) ∧ Fr [] w0 w' := by
  obtain ⟨i0, hi, hz0, hz1, hz2⟩ := info_parts infoU8b
  obtain ⟨m, hm⟩ : ∃ m, l.length = m := ⟨_, rfl⟩
  rw [hm] at hv hl ⊢
  have HV := Lib.hid hv
  have HF0 := Lib.hid hf
  clear hm hv hf
  go_enter Try.func81, Try.ntmps81
  go_wp2_with fail
  go_loopw [0, 7] (fun b i wr => ∃ j : Nat, j ≤ k ∧ i = .int .i64 j ∧ wr.ownsRow w0.heap.size 5 1 b (m + j) (bys (l ++ le j n)) ∧ Fr [] w0 wr) (fun _ i _ => k - (intOf i).toNat)
  case atStart => exact ⟨0, by omega, rfl, by simpa [le] using HV.out, HF0.out⟩
  case round =>
    clear HV HF0
    obtain ⟨j, hj, rfl, ho, hf⟩ := hrel
    have HO := Lib.hid ho
    have HF := Lib.hid hf
    obtain ⟨va, vc, rfl, -⟩ := own_slice ho
    clear ho hf
    by_cases hjk : j < k
    · rcases (show j = 0 ∨ j = 1 ∨ j = 2 ∨ j = 3 by omega) with rfl | rfl | rfl | rfl
      · have hd : (n : Int) % 256 = ((n / 256 ^ 0 % 256 : Nat) : Int) := by omega
        have HLE := Lib.hid (show bys (l ++ le 0 n) ++ [.int .u8 ((n / 256 ^ 0 % 256 : Nat) : Int)] = bys (l ++ le (0 + 1) n) from le_put l _ n)
        obtain ⟨d, hdd⟩ : ∃ d : Nat, n / 256 ^ 0 % 256 = d := ⟨_, rfl⟩
        rw [hdd] at hd HLE
        clear hdd
        have HAL := Lib.hid (show At (wr.alloc (.cells #[.int .u8 (d : Int)] 5)) wr.heap.size 5 #[.int .u8 (d : Int)] from At.new _ _ _)
        have OY := Lib.hid (own_fr0 HO.out ((Fr.refl [] wr).alloc (.cells #[.int .u8 (d : Int)] 5)))
        have hm : m + 0 ≤ 104 := by omega
        have hsz := HF.out.size
        go_wp2_with (first | (refine wpList_buildSlice rfl 31 1 _ _ _ _ (built1b _ _) rfl (by simp [go_sem]) ?_) | (at_builtin; refine wpList_append_own_at _ rfl (.tmp 13) (.tmp 19) 31 rfl w0.heap.size 5 i0 (.int .u8 0) 1 1 Try.underlying31 hi hz0 hz1 hz2 rfl (by omega) (.slice va (m + 0) vc) (m + 0) _ rfl OY.out ⟨wr.heap.size, 0, none⟩ 1 1 [.int .u8 (d : Int)] rfl rfl (fun j u hu => by rw [Go.WideShapes.add_plain, Nat.zero_add, HAL.out.cell]; simpa using hu) (fun u hu => by simp at hu; subst hu; rfl) (by unfold maxLen; omega) (by omega) (by simp <;> omega) ?_; intro v9 w9 hown9 hg9 hnil9 hat9))
        have G9 := Lib.hid (Fr.app (HF.out.alloc (.cells #[.int .u8 (d : Int)] 5)) hg9 OY.out (Nat.le_refl _))
        rw [HLE.out] at hown9
        have O9 := Lib.hid hown9
        clear hown9 hg9 hnil9 hat9 HAL OY hm
        go_roundw
        case rel => exact ⟨0 + 1, by omega, by first | rfl | go_num, O9.out, G9.out⟩
        case measure => simp [intOf] <;> omega
      · have hd : (n : Int) / 256 % 256 = ((n / 256 ^ 1 % 256 : Nat) : Int) := by omega
        have HLE := Lib.hid (show bys (l ++ le 1 n) ++ [.int .u8 ((n / 256 ^ 1 % 256 : Nat) : Int)] = bys (l ++ le (1 + 1) n) from le_put l _ n)
        obtain ⟨d, hdd⟩ : ∃ d : Nat, n / 256 ^ 1 % 256 = d := ⟨_, rfl⟩
        rw [hdd] at hd HLE
        clear hdd
        have HAL := Lib.hid (show At (wr.alloc (.cells #[.int .u8 (d : Int)] 5)) wr.heap.size 5 #[.int .u8 (d : Int)] from At.new _ _ _)
        have OY := Lib.hid (own_fr0 HO.out ((Fr.refl [] wr).alloc (.cells #[.int .u8 (d : Int)] 5)))
        have hm : m + 1 ≤ 104 := by omega
        have hsz := HF.out.size
        go_wp2_with (first | (refine wpList_buildSlice rfl 31 1 _ _ _ _ (built1b _ _) rfl (by simp [go_sem]) ?_) | (at_builtin; refine wpList_append_own_at _ rfl (.tmp 13) (.tmp 19) 31 rfl w0.heap.size 5 i0 (.int .u8 0) 1 1 Try.underlying31 hi hz0 hz1 hz2 rfl (by omega) (.slice va (m + 1) vc) (m + 1) _ rfl OY.out ⟨wr.heap.size, 0, none⟩ 1 1 [.int .u8 (d : Int)] rfl rfl (fun j u hu => by rw [Go.WideShapes.add_plain, Nat.zero_add, HAL.out.cell]; simpa using hu) (fun u hu => by simp at hu; subst hu; rfl) (by unfold maxLen; omega) (by omega) (by simp <;> omega) ?_; intro v9 w9 hown9 hg9 hnil9 hat9))
        have G9 := Lib.hid (Fr.app (HF.out.alloc (.cells #[.int .u8 (d : Int)] 5)) hg9 OY.out (Nat.le_refl _))
        rw [HLE.out] at hown9
        have O9 := Lib.hid hown9
        clear hown9 hg9 hnil9 hat9 HAL OY hm
        go_roundw
        case rel => exact ⟨1 + 1, by omega, by first | rfl | go_num, O9.out, G9.out⟩
        case measure => simp [intOf] <;> omega
      · have hd : (n : Int) / 65536 % 256 = ((n / 256 ^ 2 % 256 : Nat) : Int) := by omega
        have HLE := Lib.hid (show bys (l ++ le 2 n) ++ [.int .u8 ((n / 256 ^ 2 % 256 : Nat) : Int)] = bys (l ++ le (2 + 1) n) from le_put l _ n)
        obtain ⟨d, hdd⟩ : ∃ d : Nat, n / 256 ^ 2 % 256 = d := ⟨_, rfl⟩
        rw [hdd] at hd HLE
        clear hdd
        have HAL := Lib.hid (show At (wr.alloc (.cells #[.int .u8 (d : Int)] 5)) wr.heap.size 5 #[.int .u8 (d : Int)] from At.new _ _ _)
        have OY := Lib.hid (own_fr0 HO.out ((Fr.refl [] wr).alloc (.cells #[.int .u8 (d : Int)] 5)))
        have hm : m + 2 ≤ 104 := by omega
        have hsz := HF.out.size
        go_wp2_with (first | (refine wpList_buildSlice rfl 31 1 _ _ _ _ (built1b _ _) rfl (by simp [go_sem]) ?_) | (at_builtin; refine wpList_append_own_at _ rfl (.tmp 13) (.tmp 19) 31 rfl w0.heap.size 5 i0 (.int .u8 0) 1 1 Try.underlying31 hi hz0 hz1 hz2 rfl (by omega) (.slice va (m + 2) vc) (m + 2) _ rfl OY.out ⟨wr.heap.size, 0, none⟩ 1 1 [.int .u8 (d : Int)] rfl rfl (fun j u hu => by rw [Go.WideShapes.add_plain, Nat.zero_add, HAL.out.cell]; simpa using hu) (fun u hu => by simp at hu; subst hu; rfl) (by unfold maxLen; omega) (by omega) (by simp <;> omega) ?_; intro v9 w9 hown9 hg9 hnil9 hat9))
        have G9 := Lib.hid (Fr.app (HF.out.alloc (.cells #[.int .u8 (d : Int)] 5)) hg9 OY.out (Nat.le_refl _))
        rw [HLE.out] at hown9
        have O9 := Lib.hid hown9
        clear hown9 hg9 hnil9 hat9 HAL OY hm
        go_roundw
        case rel => exact ⟨2 + 1, by omega, by first | rfl | go_num, O9.out, G9.out⟩
        case measure => simp [intOf] <;> omega
      · have hd : (n : Int) / 16777216 % 256 = ((n / 256 ^ 3 % 256 : Nat) : Int) ∧ (n : Int) / 16777216 = ((n / 256 ^ 3 % 256 : Nat) : Int) := by omega
        have HLE := Lib.hid (show bys (l ++ le 3 n) ++ [.int .u8 ((n / 256 ^ 3 % 256 : Nat) : Int)] = bys (l ++ le (3 + 1) n) from le_put l _ n)
        obtain ⟨d, hdd⟩ : ∃ d : Nat, n / 256 ^ 3 % 256 = d := ⟨_, rfl⟩
        rw [hdd] at hd HLE
        clear hdd
        have HAL := Lib.hid (show At (wr.alloc (.cells #[.int .u8 (d : Int)] 5)) wr.heap.size 5 #[.int .u8 (d : Int)] from At.new _ _ _)
        have OY := Lib.hid (own_fr0 HO.out ((Fr.refl [] wr).alloc (.cells #[.int .u8 (d : Int)] 5)))
        have hm : m + 3 ≤ 104 := by omega
        have hsz := HF.out.size
        go_wp2_with (first | (refine wpList_buildSlice rfl 31 1 _ _ _ _ (built1b _ _) rfl (by simp [go_sem]) ?_) | (at_builtin; refine wpList_append_own_at _ rfl (.tmp 13) (.tmp 19) 31 rfl w0.heap.size 5 i0 (.int .u8 0) 1 1 Try.underlying31 hi hz0 hz1 hz2 rfl (by omega) (.slice va (m + 3) vc) (m + 3) _ rfl OY.out ⟨wr.heap.size, 0, none⟩ 1 1 [.int .u8 (d : Int)] rfl rfl (fun j u hu => by rw [Go.WideShapes.add_plain, Nat.zero_add, HAL.out.cell]; simpa using hu) (fun u hu => by simp at hu; subst hu; rfl) (by unfold maxLen; omega) (by omega) (by simp <;> omega) ?_; intro v9 w9 hown9 hg9 hnil9 hat9))
        have G9 := Lib.hid (Fr.app (HF.out.alloc (.cells #[.int .u8 (d : Int)] 5)) hg9 OY.out (Nat.le_refl _))
        rw [HLE.out] at hown9
        have O9 := Lib.hid hown9
        clear hown9 hg9 hnil9 hat9 HAL OY hm
        go_roundw
        case rel => exact ⟨3 + 1, by omega, by first | rfl | go_num, O9.out, G9.out⟩
        case measure => simp [intOf] <;> omega
    · obtain rfl : j = k := by omega
      go_wp2_with fail
      go_ret
      exact ⟨_, rfl, HO.out, HF.out⟩
theorem le3 (n : Nat) : le 3 n = le 2 (n % 65536) ++ le 1 (n / 65536 % 256) := by
  simp only [le, List.cons_append, List.nil_append]
  refine List.cons_eq_cons.2 ⟨by omega, List.cons_eq_cons.2 ⟨by omega, List.cons_eq_cons.2 ⟨by omega, rfl⟩⟩⟩
set_option maxHeartbeats 1000000 in
set_option maxRecDepth 100000 in
theorem rbytes_any (w : World) (c : Cp) (hc : c.Ok) : Calls Try.prog 57 #[.agg c.cells] w fun e w' => e = .returned (strV (bytesC c)) ∧ Fr [] w w' := by
  have hBL := bytesC_len c
  have A0 := At.new w 38 c.cells
  have F0 := (show Fr [] w (w.alloc (.cells c.cells 38)) from (by repeat (first | exact Fr.refl _ _ | assumption | refine Fr.trans0 ?_ (by assumption) | refine Fr.drewN ?_ _ | refine Fr.alloc ?_ _ | refine Fr.drew ?_)))
  obtain ⟨k0, k1, k2, k3, k4, k5, k6⟩ := hc
  have HB : Hid ([] ++ le 4 c.cur ++ le 1 c.e ++ le 2 c.b ++ le 2 c.t ++ le 2 c.pm ++ le 2 c.ty ++ le 3 c.rs = bytesC c) := Lib.hid (by unfold bytesC; rw [le3]; simp)
  have HBT := Lib.hid (show Byt (bytesC c) from by
    unfold bytesC
    exact (((((((le_byt _ _).append (le_byt _ _)).append (le_byt _ _)).append (le_byt _ _)).append (le_byt _ _)).append (le_byt _ _)).append (le_byt _ _)).append (le_byt _ _))
  obtain ⟨S, hS⟩ : ∃ S, bytesC c = S := ⟨_, rfl⟩
  rw [hS] at HB HBT hBL ⊢
  have HBL := Lib.hid hBL
  clear hS hBL
  obtain ⟨cur, e, b, t, pm, ty, rs, v⟩ := c
  unfold Cp.cells at *
  dsimp only at *
  obtain ⟨w1, hw1⟩ : ∃ W, w.alloc (.cells #[.int .u32 cur, .int .u8 e, .int .u16 b, .int .u16 t, .int .u16 pm, .int .u16 ty, .int .u32 rs, .bool v] 38) = W := ⟨_, rfl⟩
  rw [hw1] at A0 F0
  have hql := A0.lt
  have c0 := A0.cell 0
  have c1 := A0.cell 1
  have c2 := A0.cell 2
  have c3 := A0.cell 3
  have c4 := A0.cell 4
  have c5 := A0.cell 5
  have c6 := A0.cell 6
  simp only [List.getElem?_toArray, List.getElem?_cons_zero, List.getElem?_cons_succ] at c0 c1 c2 c3 c4 c5 c6
  have C := Lib.hid (And.intro c0 (And.intro c1 (And.intro c2 (And.intro c3 (And.intro c4 (And.intro c5 c6))))))
  have HF0 := Lib.hid F0
  clear c1 c2 c3 c4 c5 c6 A0 F0
  have O0 := Lib.hid (show w1.ownsRow w1.heap.size 5 1 (.slice none 0 0) ([] : List Nat).length (bys []) from World.ownsRow_nil _ _ _ _)
  have F0 := Lib.hid (Fr.refl [] w1)
  have N0 := Lib.hid (show ([] : List Nat).length = 0 from rfl)
  go_enter Try.func57, Try.ntmps57
  go_wp2_with fail
  refine (rlaid_any w1 w1 F0.out (.slice none 0 0) ([] : List Nat) O0.out (by rw [N0.out]; omega) cur 4 (by omega) (by omega)).mono ?_
  rintro e_ x1 ⟨v1, rfl, ho, hf⟩
  have O1 := Lib.hid (show x1.ownsRow w1.heap.size 5 1 v1 (([] : List Nat) ++ le 4 cur).length (bys (([] : List Nat) ++ le 4 cur)) from by rw [List.length_append, le_len]; exact ho)
  have F1 := Lib.hid hf
  have N1 := Lib.hid (show (([] : List Nat) ++ le 4 cur).length = 4 from by rw [List.length_append, le_len, N0.out])
  have c1 := (hf.cell (a := ⟨w.heap.size, 1, none⟩) hql (by simp)).trans C.out.2.1
  clear ho hf O0 F0 N0 c0
  go_wp2_with fail
  refine (rlaid_any w1 x1 F1.out v1 (([] : List Nat) ++ le 4 cur) O1.out (by rw [N1.out]; omega) e 1 (by omega) (by omega)).mono ?_
  rintro e_ x2 ⟨v2, rfl, ho, hf⟩
  have O2 := Lib.hid (show x2.ownsRow w1.heap.size 5 1 v2 (([] : List Nat) ++ le 4 cur ++ le 1 e).length (bys (([] : List Nat) ++ le 4 cur ++ le 1 e)) from by rw [List.length_append, le_len]; exact ho)
  have F2 := Lib.hid hf
  have N2 := Lib.hid (show (([] : List Nat) ++ le 4 cur ++ le 1 e).length = 5 from by rw [List.length_append, le_len, N1.out])
  have c2 := (hf.cell (a := ⟨w.heap.size, 2, none⟩) hql (by simp)).trans C.out.2.2.1
  clear ho hf O1 F1 N1 c1
  go_wp2_with fail
  refine (rlaid_any w1 x2 F2.out v2 (([] : List Nat) ++ le 4 cur ++ le 1 e) O2.out (by rw [N2.out]; omega) b 2 (by omega) (by omega)).mono ?_
  rintro e_ x3 ⟨v3, rfl, ho, hf⟩
  have O3 := Lib.hid (show x3.ownsRow w1.heap.size 5 1 v3 (([] : List Nat) ++ le 4 cur ++ le 1 e ++ le 2 b).length (bys (([] : List Nat) ++ le 4 cur ++ le 1 e ++ le 2 b)) from by rw [List.length_append, le_len]; exact ho)
  have F3 := Lib.hid hf
  have N3 := Lib.hid (show (([] : List Nat) ++ le 4 cur ++ le 1 e ++ le 2 b).length = 7 from by rw [List.length_append, le_len, N2.out])
  have c3 := (hf.cell (a := ⟨w.heap.size, 3, none⟩) hql (by simp)).trans C.out.2.2.2.1
  clear ho hf O2 F2 N2 c2
  go_wp2_with fail
  refine (rlaid_any w1 x3 F3.out v3 (([] : List Nat) ++ le 4 cur ++ le 1 e ++ le 2 b) O3.out (by rw [N3.out]; omega) t 2 (by omega) (by omega)).mono ?_
  rintro e_ x4 ⟨v4, rfl, ho, hf⟩
  have O4 := Lib.hid (show x4.ownsRow w1.heap.size 5 1 v4 (([] : List Nat) ++ le 4 cur ++ le 1 e ++ le 2 b ++ le 2 t).length (bys (([] : List Nat) ++ le 4 cur ++ le 1 e ++ le 2 b ++ le 2 t)) from by rw [List.length_append, le_len]; exact ho)
  have F4 := Lib.hid hf
  have N4 := Lib.hid (show (([] : List Nat) ++ le 4 cur ++ le 1 e ++ le 2 b ++ le 2 t).length = 9 from by rw [List.length_append, le_len, N3.out])
  have c4 := (hf.cell (a := ⟨w.heap.size, 4, none⟩) hql (by simp)).trans C.out.2.2.2.2.1
  clear ho hf O3 F3 N3 c3
  go_wp2_with fail
  refine (rlaid_any w1 x4 F4.out v4 (([] : List Nat) ++ le 4 cur ++ le 1 e ++ le 2 b ++ le 2 t) O4.out (by rw [N4.out]; omega) pm 2 (by omega) (by omega)).mono ?_
  rintro e_ x5 ⟨v5, rfl, ho, hf⟩
  have O5 := Lib.hid (show x5.ownsRow w1.heap.size 5 1 v5 (([] : List Nat) ++ le 4 cur ++ le 1 e ++ le 2 b ++ le 2 t ++ le 2 pm).length (bys (([] : List Nat) ++ le 4 cur ++ le 1 e ++ le 2 b ++ le 2 t ++ le 2 pm)) from by rw [List.length_append, le_len]; exact ho)
  have F5 := Lib.hid hf
  have N5 := Lib.hid (show (([] : List Nat) ++ le 4 cur ++ le 1 e ++ le 2 b ++ le 2 t ++ le 2 pm).length = 11 from by rw [List.length_append, le_len, N4.out])
  have c5 := (hf.cell (a := ⟨w.heap.size, 5, none⟩) hql (by simp)).trans C.out.2.2.2.2.2.1
  clear ho hf O4 F4 N4 c4
  go_wp2_with fail
  refine (rlaid_any w1 x5 F5.out v5 (([] : List Nat) ++ le 4 cur ++ le 1 e ++ le 2 b ++ le 2 t ++ le 2 pm) O5.out (by rw [N5.out]; omega) ty 2 (by omega) (by omega)).mono ?_
  rintro e_ x6 ⟨v6, rfl, ho, hf⟩
  have O6 := Lib.hid (show x6.ownsRow w1.heap.size 5 1 v6 (([] : List Nat) ++ le 4 cur ++ le 1 e ++ le 2 b ++ le 2 t ++ le 2 pm ++ le 2 ty).length (bys (([] : List Nat) ++ le 4 cur ++ le 1 e ++ le 2 b ++ le 2 t ++ le 2 pm ++ le 2 ty)) from by rw [List.length_append, le_len]; exact ho)
  have F6 := Lib.hid hf
  have N6 := Lib.hid (show (([] : List Nat) ++ le 4 cur ++ le 1 e ++ le 2 b ++ le 2 t ++ le 2 pm ++ le 2 ty).length = 13 from by rw [List.length_append, le_len, N5.out])
  have c6 := (hf.cell (a := ⟨w.heap.size, 6, none⟩) hql (by simp)).trans C.out.2.2.2.2.2.2
  clear ho hf O5 F5 N5 c5
  go_wp2_with fail
  refine (rlaid_any w1 x6 F6.out v6 (([] : List Nat) ++ le 4 cur ++ le 1 e ++ le 2 b ++ le 2 t ++ le 2 pm ++ le 2 ty) O6.out (by rw [N6.out]; omega) rs 3 (by omega) (by omega)).mono ?_
  rintro e_ x7 ⟨v7, rfl, ho, hf⟩
  have O7 := Lib.hid (show x7.ownsRow w1.heap.size 5 1 v7 (([] : List Nat) ++ le 4 cur ++ le 1 e ++ le 2 b ++ le 2 t ++ le 2 pm ++ le 2 ty ++ le 3 rs).length (bys (([] : List Nat) ++ le 4 cur ++ le 1 e ++ le 2 b ++ le 2 t ++ le 2 pm ++ le 2 ty ++ le 3 rs)) from by rw [List.length_append, le_len]; exact ho)
  have F7 := Lib.hid hf
  have N7 := Lib.hid (show (([] : List Nat) ++ le 4 cur ++ le 1 e ++ le 2 b ++ le 2 t ++ le 2 pm ++ le 2 ty ++ le 3 rs).length = 16 from by rw [List.length_append, le_len, N6.out])
  clear ho hf O6 F6 N6 c6
  have O8 := O7.out
  rw [HB.out, HBL.out] at O8
  obtain ⟨va, vc, rfl, hvc⟩ := own_slice O8
  obtain ⟨g, c', e1, -, -, hgl, hcl, -⟩ := own_open O8 (by omega)
  injection e1 with e1 e2 e3
  subst e1 e3
  have HIN : Hid (BIn x7 (some ⟨g, 0, none⟩) S) := Lib.hid (.inr ⟨g, 0, rfl, hgl, fun j u hu => by rw [Nat.zero_add, hcl j (by have := (List.getElem?_eq_some_iff.1 hu).1; rw [bys_len, HBL.out] at this; exact this)]; exact hu⟩)
  have F7' := Lib.hid (HF0.out.trans0 F7.out)
  clear O7 O8 N7 F7 hcl
  go_wp2_with (refine wpList_str rfl ⟨5, Try.underlying31, Try.underlying5⟩ Try.underlying9 (.tmp 37) rfl _ 16 vc rfl S HBL.out HBT.out HIN.out (fun h => by cases h) ?_)
  go_ret
  exact ⟨rfl, F7'.out⟩
end Go.Proofs.Ytilgklpponaoeaa
