/-
  What octet's functions compute: numbers laid as bytes, and taken from them. Condition: widths 1, 2 and 4 where said; numbers in their types' ranges.
-/
import Derived.Test.YthjbnbimfpbccaaGreatDoorJ8


set_option linter.unusedVariables false
namespace Go.Proofs.YthjbnbimfpbccaaGreatDoor
open Go.ChangeShapes Go.WideShapes Go.ChangeAt Go.RowKit
theorem right_w (w : World) (k : Nat) (hk : k = 1 ∨ k = 2 ∨ k = 4) : Calls Tryz.prog 121 #[.int .i64 k] w fun r w' => r = .returned (.bool true) ∧ w = w' := by
  rcases hk with rfl | rfl | rfl
  all_goals
    go_enter Tryz.func121, Tryz.ntmps121
    go_wp2_with fail
    go_ret
    exact ⟨rfl, rfl⟩
theorem right_no (w : World) (k : Int) (h1 : k ≠ 1) (h2 : k ≠ 2) (h4 : k ≠ 4) : Calls Tryz.prog 121 #[.int .i64 k] w fun r w' => r = .returned (.bool false) ∧ w = w' := by
  have e1 : (k == 1) = false := by simpa using h1
  have e2 : (k == 2) = false := by simpa using h2
  have e4 : (k == 4) = false := by simpa using h4
  go_enter Tryz.func121, Tryz.ntmps121
  go_wp2_with fail
  go_ret
  exact ⟨rfl, rfl⟩
theorem oset_any (w : World) (q k v : Nat) (hk : k = 1 ∨ k = 2 ∨ k = 4) (hv : v < 4294967296) (hq : At w q 200 (bys [0, 0, 0, 0]).toArray) :
    Calls Tryz.prog 122 #[.slice (some ⟨q, 0, none⟩) 4 4, .int .i64 0, .int .i64 k, .int .u32 v] w fun r w' => (∃ x, r = .returned x) ∧ At w' q 200 (bys (le k v ++ List.replicate (4 - k) 0)).toArray ∧ Fr [q] w w' := by
  have C := Lib.hid fun W => right_w W k hk
  have HQ := Lib.hid hq
  have hk4 : k ≤ 4 := by omega
  clear hq hk
  go_enter Tryz.func122, Tryz.ntmps122
  go_wp2_with fail
  refine (C.out _).mono ?_
  rintro e w' ⟨rfl, rfl⟩
  have hkg : ¬ (0 : Int) > 4 - (k : Int) := by omega
  go_wp2_with fail
  go_loopw [26] (fun i wr => ∃ j : Nat, j ≤ k ∧ i = .int .i64 j ∧ At wr q 200 (bys (le j v ++ List.replicate (4 - j) 0)).toArray ∧ Fr [q] w wr) (fun i _ => k - (intOf i).toNat)
  case atStart => exact ⟨0, by omega, rfl, HQ.out, Fr.refl _ _⟩
  case round =>
    clear HQ
    obtain ⟨j, hj, rfl, hq, hf⟩ := hrel
    have HQ := Lib.hid hq
    have HF := Lib.hid hf
    by_cases hjk : j < k
    · have cj := hq.cell j
      have zj := hq.froz j
      have hj4 : j < 4 := by omega
      rcases (show j = 0 ∨ j = 1 ∨ j = 2 ∨ j = 3 by omega) with rfl | rfl | rfl | rfl
      · have h := HQ.out.set 0 (.int .u8 ((v / 1 % 256 : Nat) : Int))
        unfold bys at cj
        simp [le] at cj
        clear hq hf
        go_wp2_with fail
        go_roundw
        case rel =>
          refine ⟨0 + 1, by omega, rfl, ?_, HF.out.set (.inl (by simp)) _⟩
          simpa [bys, le, Nat.div_div_eq_div_mul] using h
        case measure => simp [intOf] <;> omega
      · have h := HQ.out.set 1 (.int .u8 ((v / 256 % 256 : Nat) : Int))
        unfold bys at cj
        simp [le] at cj
        clear hq hf
        go_wp2_with fail
        go_roundw
        case rel =>
          refine ⟨1 + 1, by omega, rfl, ?_, HF.out.set (.inl (by simp)) _⟩
          simpa [bys, le, Nat.div_div_eq_div_mul] using h
        case measure => simp [intOf] <;> omega
      · have h := HQ.out.set 2 (.int .u8 ((v / 65536 % 256 : Nat) : Int))
        unfold bys at cj
        simp [le] at cj
        clear hq hf
        go_wp2_with fail
        go_roundw
        case rel =>
          refine ⟨2 + 1, by omega, rfl, ?_, HF.out.set (.inl (by simp)) _⟩
          simpa [bys, le, Nat.div_div_eq_div_mul] using h
        case measure => simp [intOf] <;> omega
      · have h := HQ.out.set 3 (.int .u8 ((v / 16777216 : Nat) : Int))
        have e3 : (v : Int) / 16777216 % 256 = (v : Int) / 16777216 := by omega
        unfold bys at cj
        simp [le] at cj
        clear hq hf
        go_wp2_with fail
        go_roundw
        case rel =>
          refine ⟨3 + 1, by omega, rfl, ?_, HF.out.set (.inl (by simp)) _⟩
          simpa [bys, le, Nat.div_div_eq_div_mul, e3] using h
        case measure => simp [intOf] <;> omega
    · obtain rfl : j = k := by omega
      clear hq hf
      go_wp2_with fail
      go_ret
      exact ⟨⟨_, rfl⟩, HQ.out, HF.out⟩
set_option maxRecDepth 100000 in
theorem oput_any (w : World) (s : List Nat) (hs : Byt s) (hl : s.length ≤ 1000000) (k v : Nat) (hk : k = 1 ∨ k = 2 ∨ k = 4) (hv : v < 4294967296) :
    Calls Tryz.prog 87 #[strV s, .int .i64 k, .int .u32 v] w fun r w' => r = .returned (strV (s ++ le k v)) ∧ Fr [] w w' := by
  have C := Lib.hid fun W => right_w W k hk
  have HA := Lib.hid (At.new w 200 (bys [0, 0, 0, 0]).toArray)
  have CS := Lib.hid (oset_any (w.alloc (.cells (bys [0, 0, 0, 0]).toArray 200)) w.heap.size k v hk hv (At.new w _ _))
  have HF := Lib.hid (show Fr [] w (w.alloc (.cells (bys [0, 0, 0, 0]).toArray 200)) from (by repeat (first | exact Fr.refl _ _ | assumption | refine Fr.trans0 ?_ (by assumption) | refine Fr.drewN ?_ _ | refine Fr.alloc ?_ _ | refine Fr.drew ?_)))
  have hk4 : k ≤ 4 := by omega
  unfold strV
  have hsum : (BS s).size + (BS (le k v)).size ≤ 9223372036854775807 := by rw [BS_size, BS_size, le_len]; omega
  have hadd := fun W : World => run_string_add_sum (P := Tryz.prog) W (BS s) (BS (le k v)) hsum
  have hap := BS_append s (le k v)
  obtain ⟨S, hS⟩ : ∃ S, BS s = S := ⟨_, rfl⟩
  obtain ⟨T, hT⟩ : ∃ T, BS (le k v) = T := ⟨_, rfl⟩
  obtain ⟨U, hU⟩ : ∃ U, BS (s ++ le k v) = U := ⟨_, rfl⟩
  rw [hS, hT] at hadd hap
  rw [hU] at hap
  simp only [hap] at hadd
  rw [hS, hU]
  have HT := Lib.hid hT
  clear hS hU hv hs hl hsum hap hT
  have HL := Lib.hid (le_len k v)
  have HB := Lib.hid (le_byt k v)
  obtain ⟨L, hL⟩ : ∃ L, le k v = L := ⟨_, rfl⟩
  rw [hL] at HL HB CS HT
  clear hL
  rcases hk with rfl | rfl | rfl
  all_goals
    go_enter Tryz.func87, Tryz.ntmps87
    go_wp2_with fail
    refine (C.out _).mono ?_
    rintro e w' ⟨rfl, rfl⟩
    go_wp2_with fail
    refine (CS.out).mono ?_
    rintro e w2 ⟨⟨x, rfl⟩, h2, hf2⟩
    have H2 := Lib.hid h2
    have F2 := Lib.hid (HF.out.trans hf2 (by simp))
    have hlt := h2.lt
    have HIN : Hid (BIn w2 (some ⟨w.heap.size, 0, none⟩) L) := Lib.hid (.inr ⟨w.heap.size, 0, rfl, hlt, fun j u hu => by
      rw [Nat.zero_add, h2.cell, List.getElem?_toArray, bys_append, List.getElem?_append_left (List.getElem?_eq_some_iff.1 hu).1]
      exact hu⟩)
    clear h2 hf2 CS
    go_wp2_with (refine wpList_str rfl ⟨5, Tryz.underlying22, Tryz.underlying5⟩ Tryz.underlying9 (.tmp 18) rfl _ _ 4 rfl L HL.out HB.out HIN.out (fun h => by cases h) ?_; unfold strV; rw [HT.out])
    go_ret
    exact ⟨rfl, F2.out⟩
/-! ### numbers taken from bytes -/
theorem oget_no (w : World) (a : Option Addr) (n cap : Nat) (at_ k : Int) (h : k ≠ 1 ∧ k ≠ 2 ∧ k ≠ 4) : Calls Tryz.prog 141 #[.slice a n cap, .int .i64 at_, .int .i64 k] w fun r w' => r = .returned (.tuple #[.int .u32 0, .bool false]) ∧ w = w' := by
  have C := Lib.hid fun W => right_no W k h.1 h.2.1 h.2.2
  clear h
  go_enter Tryz.func141, Tryz.ntmps141
  go_wp2_with fail
  refine (C.out _).mono ?_
  rintro e w' ⟨rfl, rfl⟩
  go_wp2_with fail
  go_ret2
  exact ⟨rfl, rfl⟩
set_option maxRecDepth 100000 in
theorem oget_out (w : World) (a : Option Addr) (n cap : Nat) (at_ k : Nat) (hk : k = 1 ∨ k = 2 ∨ k = 4) (ha : n < at_ + k) (hn : n ≤ 1000000) (hat : at_ ≤ 4294967296) : Calls Tryz.prog 141 #[.slice a n cap, .int .i64 at_, .int .i64 k] w fun r w' => r = .returned (.tuple #[.int .u32 0, .bool false]) ∧ w = w' := by
  have C := Lib.hid fun W => right_w W k hk
  have hgt : (at_ : Int) > (n : Int) - (k : Int) := by omega
  have hk4 : k ≤ 4 := by omega
  clear hk
  go_enter Tryz.func141, Tryz.ntmps141
  go_wp2_with fail
  refine (C.out _).mono ?_
  rintro e w' ⟨rfl, rfl⟩
  go_wp2_with fail
  go_ret2
  exact ⟨rfl, rfl⟩
theorem or_sum (a b k : Nat) (hb : b < 2 ^ k) (ha : a * 2 ^ k + b < 4294967296) : bits .or .u32 ((a * 2 ^ k : Nat) : Int) ((b : Nat) : Int) = ((a * 2 ^ k + b : Nat) : Int) := by
  rw [u32_or_nat _ _ (by omega) (by omega), Nat.mul_comm a, Nat.two_pow_add_eq_or_of_lt hb]
theorem or_zero (b : Nat) (hb : b < 4294967296) : bits .or .u32 0 (b : Int) = (b : Int) := by
  have := u32_or_nat 0 b (by omega) hb
  rw [Nat.zero_or] at this
  exact this
theorem or_two (b0 b1 : Nat) (h0 : b0 < 256) (h1 : b1 < 256) : bits .or .u32 (bits .or .u32 0 ((b1 : Int) * 256)) (b0 : Int) = ((unle [b0, b1] : Nat) : Int) := by
  have e1 := or_zero (b1 * 256) (by omega)
  have e2 := or_sum b1 b0 8 (by omega) (by omega)
  rw [show ((b1 : Int) * 256) = ((b1 * 256 : Nat) : Int) by simp, e1]
  rw [show b1 * 2 ^ 8 = b1 * 256 from rfl] at e2
  rw [e2]
  simp [unle]; omega
theorem or_four (b0 b1 b2 b3 : Nat) (h0 : b0 < 256) (h1 : b1 < 256) (h2 : b2 < 256) (h3 : b3 < 256) :
    bits .or .u32 (bits .or .u32 (bits .or .u32 ((b3 : Int) * 16777216) ((b2 : Int) * 65536)) ((b1 : Int) * 256)) (b0 : Int) = ((unle [b0, b1, b2, b3] : Nat) : Int) := by
  have e1 := or_sum b3 (b2 * 65536) 24 (by omega) (by omega)
  have e2 := or_sum (b3 * 256 + b2) (b1 * 256) 16 (by omega) (by omega)
  have e3 := or_sum (b3 * 65536 + b2 * 256 + b1) b0 8 (by omega) (by omega)
  rw [show b3 * 2 ^ 24 = b3 * 16777216 from rfl] at e1
  rw [show (b3 * 256 + b2) * 2 ^ 16 = b3 * 16777216 + b2 * 65536 by omega] at e2
  rw [show (b3 * 65536 + b2 * 256 + b1) * 2 ^ 8 = b3 * 16777216 + b2 * 65536 + b1 * 256 by omega] at e3
  rw [show ((b3 : Int) * 16777216) = ((b3 * 16777216 : Nat) : Int) by simp, show ((b2 : Int) * 65536) = ((b2 * 65536 : Nat) : Int) by simp, show ((b1 : Int) * 256) = ((b1 * 256 : Nat) : Int) by simp, e1, e2, e3]
  simp [unle]; omega
theorem oget_any (w : World) (g off n cap : Nat) (at_ k : Nat) (hk : k = 1 ∨ k = 2 ∨ k = 4) (ha : at_ + k ≤ n) (hn : n ≤ 1000000) (hc : n ≤ cap) (hc2 : cap ≤ 9223372036854775807) (l : List Nat) (hl : l.length = k) (hb : Byt l) (hi : ∀ j v, (bys l)[j]? = some v → w.cell? ⟨g, off + at_ + j, none⟩ = some v) :
    Calls Tryz.prog 141 #[.slice (some ⟨g, off, none⟩) n cap, .int .i64 at_, .int .i64 k] w fun r w' => r = .returned (.tuple #[.int .u32 (unle l), .bool true]) ∧ ∃ m, w' = w.drewN m := by
  have C := Lib.hid fun W => right_w W k hk
  have hgt : ¬ (at_ : Int) > (n : Int) - (k : Int) := by omega
  rcases hk with rfl | rfl | rfl
  · obtain ⟨b0, rfl⟩ : ∃ b0, l = [b0] := List.length_eq_one_iff.1 hl
    have c0 := hi 0 _ (bys_get _ 0 b0 rfl)
    have h0 := hb b0 (by simp)
    have hv : unle [b0] = b0 := by simp [unle]
    rw [hv]
    rw [Nat.add_zero] at c0
    have hor := or_zero b0 (by omega)
    clear hi hb hv
    go_enter Tryz.func141, Tryz.ntmps141
    go_wp2_with fail
    refine (C.out _).mono ?_
    rintro e w' ⟨rfl, rfl⟩
    go_wp2_with fail
    go_ret2
    exact ⟨rfl, 0, rfl⟩
  · obtain ⟨b0, b1, rfl⟩ : ∃ b0 b1, l = [b0, b1] := by
      match l, hl with
      | [b0, b1], _ => exact ⟨_, _, rfl⟩
    have c0 := hi 0 _ (bys_get _ 0 b0 rfl)
    have c1 := hi 1 _ (bys_get _ 1 b1 rfl)
    have h0 := hb b0 (by simp)
    have h1 := hb b1 (by simp)
    rw [Nat.add_zero] at c0
    have hor := or_two b0 b1 h0 h1
    clear hi hb
    go_enter Tryz.func141, Tryz.ntmps141
    go_wp2_with fail
    refine (C.out _).mono ?_
    rintro e w' ⟨rfl, rfl⟩
    go_wp2_with fail
    go_ret2
    exact ⟨rfl, 0, rfl⟩
  · obtain ⟨b0, b1, b2, b3, rfl⟩ : ∃ b0 b1 b2 b3, l = [b0, b1, b2, b3] := by
      match l, hl with
      | [b0, b1, b2, b3], _ => exact ⟨_, _, _, _, rfl⟩
    have c0 := hi 0 _ (bys_get _ 0 b0 rfl)
    have c1 := hi 1 _ (bys_get _ 1 b1 rfl)
    have c2 := hi 2 _ (bys_get _ 2 b2 rfl)
    have c3 := hi 3 _ (bys_get _ 3 b3 rfl)
    have h0 := hb b0 (by simp)
    have h1 := hb b1 (by simp)
    have h2 := hb b2 (by simp)
    have h3 := hb b3 (by simp)
    have hor := or_four b0 b1 b2 b3 h0 h1 h2 h3
    rw [Nat.add_zero] at c0
    clear hi hb
    go_enter Tryz.func141, Tryz.ntmps141
    go_wp2_with fail
    refine (C.out _).mono ?_
    rintro e w' ⟨rfl, rfl⟩
    go_upto_region 8 with (fail)
    go_region
    all_goals
      go_wp2_with fail
      go_ret2
      exact ⟨rfl, 1, rfl⟩
end Go.Proofs.YthjbnbimfpbccaaGreatDoor
/-
  What a reader of bytes does. Condition: widths 1, 2 and 4, and as many bytes left.
-/


set_option linter.unusedVariables false
namespace Go.Proofs.YthjbnbimfpbccaaGreatDoor
open Go.ChangeShapes Go.WideShapes Go.ChangeAt Go.RowKit
/-- A reader at block rp: the bytes l are left, in block g. -/
def Rd (w : World) (rp g : Nat) (l : List Nat) : Prop := rp ≠ g ∧ l.length ≤ 1000000 ∧ Byt l ∧ ∃ off cap, At w rp 217 #[.slice (some ⟨g, off, none⟩) l.length cap] ∧ l.length ≤ cap ∧ cap ≤ 9223372036854775807 ∧ g < w.heap.size ∧ ∀ j v, (bys l)[j]? = some v → w.cell? ⟨g, off + j, none⟩ = some v
theorem Rd.fr {w w' : World} {rp g : Nat} {l : List Nat} {S : List Nat} (h : Rd w rp g l) (f : Fr S w w') (h1 : rp ∉ S) (h2 : g ∉ S) : Rd w' rp g l := by
  obtain ⟨hne, hl, hb, off, cap, hA, hc, hc2, hg, hi⟩ := h
  exact ⟨hne, hl, hb, off, cap, hA.fr f h1, hc, hc2, Nat.lt_of_lt_of_le hg f.size, fun j v hv => (f.cell (a := ⟨g, off + j, none⟩) hg h2).trans (hi j v hv)⟩
theorem onew_any (w : World) (l : List Nat) (hb : Byt l) (hl : l.length ≤ 1000000) :
    Calls Tryz.prog 118 #[strV l] w fun r w' => ∃ rp g, r = .returned (.pointer (some ⟨rp, 0, none⟩)) ∧ Rd w' rp g l ∧ w.heap.size ≤ rp ∧ w.heap.size ≤ g ∧ Fr [] w w' := by
  have HB := Lib.hid hb
  obtain ⟨s, hs⟩ : ∃ s, strV l = s := ⟨_, rfl⟩
  have HS := Lib.hid hs
  have HL := Lib.hid hl
  rw [hs]
  clear hb hs hl
  go_enter Tryz.func118, Tryz.ntmps118
  go_wp2_with (refine wpList_bytes rfl Tryz.underlying9 ⟨5, Tryz.underlying22, Tryz.underlying5⟩ (.tmp 3) rfl l HB.out HL.out HS.out.symm ?_; intro w2 g cap hg hcap hcm hc hf hgl)
  go_ret
  have F := (show Fr [] w2 (w2.alloc (.cells #[.slice (some ⟨g, 0, none⟩) l.length cap] 217)) from (by repeat (first | exact Fr.refl _ _ | assumption | refine Fr.trans0 ?_ (by assumption) | refine Fr.drewN ?_ _ | refine Fr.alloc ?_ _ | refine Fr.drew ?_)))
  exact ⟨_, g, rfl, ⟨by omega, HL.out, HB.out, 0, cap, At.new _ _ _, hcap, hcm, by simp; omega, fun j v hv => by rw [Nat.zero_add]; exact (F.cell (a := ⟨g, j, none⟩) hgl (by simp)).trans (hc j v hv)⟩, hf.size, hg, hf.trans0 F⟩
theorem oleft_any (w : World) (rp g : Nat) (l : List Nat) (h : Rd w rp g l) : Calls Tryz.prog 153 #[.pointer (some ⟨rp, 0, none⟩)] w fun r w' => r = .returned (.int .i64 l.length) ∧ w = w' := by
  obtain ⟨hne, hl, hb, off, cap, hA, hc, hc2, hg, hi⟩ := h
  have c0 := hA.cell 0
  simp only [List.getElem?_toArray, List.getElem?_cons_zero] at c0
  clear hi hA
  go_enter Tryz.func153, Tryz.ntmps153
  go_wp2_with fail
  go_ret
  exact ⟨rfl, rfl⟩
theorem otake_any (w : World) (rp g : Nat) (l : List Nat) (h : Rd w rp g l) (k : Nat) (hk : k ≤ l.length) : Calls Tryz.prog 142 #[.pointer (some ⟨rp, 0, none⟩), .int .i64 k] w fun r w' => r = .returned (.tuple #[strV (l.take k), .bool true]) ∧ Rd w' rp g (l.drop k) ∧ Fr [rp] w w' := by
  have C := Lib.hid (oleft_any w rp g l h)
  obtain ⟨hne, hl, hb, off, cap, hA, hc, hc2, hg, hi⟩ := h
  have c0 := hA.cell 0
  have z0 := hA.froz 0
  simp only [List.getElem?_toArray, List.getElem?_cons_zero] at c0
  obtain ⟨n, hn⟩ : ∃ n, l.length = n := ⟨_, rfl⟩
  have HI := Lib.hid (show BIn w (some ⟨g, off, none⟩) (l.take k) from .inr ⟨g, off, rfl, hg, fun j v hv => by
    rw [← bys_take] at hv
    rw [List.getElem?_take] at hv
    split at hv
    · exact hi j v hv
    · cases hv⟩)
  have HBT := Lib.hid (hb.take k)
  have HLT := Lib.hid (show (l.take k).length = k by rw [List.length_take]; omega)
  have HA := Lib.hid hA
  have HE := Lib.hid hi
  have HB := Lib.hid hb
  have HN := Lib.hid hn
  have hgt : ¬ (k : Int) > (n : Int) := by omega
  have hk0 : ¬ (k : Int) < 0 := by omega
  rw [hn] at C c0 hl hc hk
  unfold strV
  obtain ⟨S, hS⟩ : ∃ S, BS (l.take k) = S := ⟨_, rfl⟩
  have HS := Lib.hid (show strV (l.take k) = .string S by unfold strV; rw [hS])
  rw [hS]
  clear hA hb hi hn hS
  go_enter Tryz.func142, Tryz.ntmps142
  go_wp2_with fail
  refine (C.out).mono ?_
  rintro e w' ⟨rfl, rfl⟩
  go_wp2_with (refine wpList_str rfl ⟨5, Tryz.underlying22, Tryz.underlying5⟩ Tryz.underlying9 (.tmp 25) rfl _ k k rfl (l.take k) HLT.out HBT.out HI.out (fun h => by cases h) ?_; rw [HS.out])
  case inl =>
    go_ret2
    have F : Fr [rp] w (w.setCell ⟨rp, 0, none⟩ (.slice (some ⟨g, off, none⟩) (n - k) 0)) := (Fr.refl _ _).set (.inl (by simp)) _
    have hdl : (l.drop k).length = n - k := by rw [List.length_drop, HN.out]
    have hnk : n - k = 0 := by omega
    refine ⟨rfl, ⟨hne, by rw [hdl]; omega, HB.out.drop k, off, 0, ?_, by rw [hdl]; omega, by omega, Nat.lt_of_lt_of_le hg F.size, fun j v hv => ?_⟩, F⟩
    · have := HA.out.set 0 (.slice (some ⟨g, off, none⟩) (n - k) 0)
      rw [hdl]; exact this
    · have hj := (List.getElem?_eq_some_iff.1 hv).1
      rw [bys_len, hdl] at hj
      omega
  case inr =>
    go_ret2
    have F : Fr [rp] w (w.setCell ⟨rp, 0, none⟩ (.slice (some ⟨g, off + k, none⟩) (n - k) (cap - k))) := (Fr.refl _ _).set (.inl (by simp)) _
    have hdl : (l.drop k).length = n - k := by rw [List.length_drop, HN.out]
    refine ⟨rfl, ⟨hne, by rw [hdl]; omega, HB.out.drop k, off + k, cap - k, ?_, by rw [hdl]; omega, by omega, Nat.lt_of_lt_of_le hg F.size, fun j v hv => ?_⟩, F⟩
    · have := HA.out.set 0 (.slice (some ⟨g, off + k, none⟩) (n - k) (cap - k))
      rw [hdl]; exact this
    · rw [← bys_drop, List.getElem?_drop] at hv
      have := HE.out (k + j) v hv
      rw [show off + k + j = off + (k + j) by omega]
      exact (F.cell (a := ⟨g, off + (k + j), none⟩) hg (by simp; omega)).trans this
theorem onumber_any (w : World) (rp g : Nat) (l : List Nat) (h : Rd w rp g l) (k : Nat) (hk : k = 1 ∨ k = 2 ∨ k = 4) (hkl : k ≤ l.length) : Calls Tryz.prog 120 #[.pointer (some ⟨rp, 0, none⟩), .int .i64 k] w fun r w' => r = .returned (.tuple #[.int .u32 (unle (l.take k)), .bool true]) ∧ Rd w' rp g (l.drop k) ∧ Fr [rp] w w' := by
  have H := Lib.hid h
  obtain ⟨hne, hl, hb, off, cap, hA, hc, hc2, hg, hi⟩ := h
  have CG := Lib.hid (oget_any w g off l.length cap 0 k hk (by omega) hl hc hc2 (l.take k) (by rw [List.length_take]; omega) (hb.take k) (fun j v hv => by
    rw [← bys_take, List.getElem?_take] at hv
    split at hv
    · exact hi j v hv
    · cases hv))
  have CT := Lib.hid fun W hW => otake_any W rp g l (H.out.fr (S := []) hW (by simp) (by simp)) k hkl
  have c0 := hA.cell 0
  simp only [List.getElem?_toArray, List.getElem?_cons_zero] at c0
  obtain ⟨N, hN⟩ : ∃ N, unle (l.take k) = N := ⟨_, rfl⟩
  rw [hN] at CG ⊢
  clear hA hb hi hN hk
  go_enter Tryz.func120, Tryz.ntmps120
  go_wp2_with fail
  refine (CG.out).mono ?_
  rintro e w' ⟨rfl, m, rfl⟩
  go_wp2_with fail
  refine (CT.out _ ((Fr.refl _ _).drewN m)).mono ?_
  rintro e w3 ⟨rfl, h3, hf3⟩
  have H3 := Lib.hid h3
  go_wp2_with fail
  go_ret2
  exact ⟨rfl, H3.out, hf3.hd rfl rfl rfl rfl⟩
end Go.Proofs.YthjbnbimfpbccaaGreatDoor
