/-
  What scan.Caps does to a list of capabilities. Conditions: numbers in their types' ranges; a thousand capabilities at most.
-/




import Derived.Test.YtilgklpponaoeaaClean
import Derived.Laws.EntriesVeiled
set_option linter.unusedVariables false
namespace Go.Proofs.Ytilgklpponaoeaa
open Go.ChangeShapes Go.WideShapes Go.ChangeAt Go.RowKit
/-- The first j cleaned. -/
def upto (hs : Int → Bool) (l : List Cp) (j : Nat) : List Cp := (l.take j).map (cln hs) ++ l.drop j
def sums (hs : Int → Bool) (l : List Cp) : Nat := (l.map (sOne hs)).sum
theorem upto_zero (hs : Int → Bool) (l : List Cp) : upto hs l 0 = l := by simp [upto]
theorem upto_len (hs : Int → Bool) (l : List Cp) (j : Nat) : (upto hs l j).length = l.length := by simp [upto]; omega
theorem upto_get (hs : Int → Bool) (l : List Cp) (j : Nat) (c : Cp) (h : l[j]? = some c) : (upto hs l j)[j]? = some c := by
  have hj := (List.getElem?_eq_some_iff.1 h).1
  unfold upto
  rw [List.getElem?_append_right (by simp; omega)]
  simp only [List.length_map, List.length_take, Nat.min_eq_left (Nat.le_of_lt hj), Nat.sub_self, List.getElem?_drop, Nat.add_zero]
  exact h
theorem upto_set (hs : Int → Bool) (l : List Cp) (j : Nat) (c : Cp) (h : l[j]? = some c) : (upto hs l j).set j (cln hs c) = upto hs l (j + 1) := by
  obtain ⟨hj, he⟩ := List.getElem?_eq_some_iff.1 h
  unfold upto
  rw [List.set_append_right _ _ (by simp; omega)]
  simp only [List.length_map, List.length_take, Nat.min_eq_left (Nat.le_of_lt hj), Nat.sub_self]
  rw [List.drop_eq_getElem_cons hj, List.set_cons_zero, List.take_succ_eq_append_getElem hj, List.map_append, List.append_assoc, he]
  rfl
theorem upto_all (hs : Int → Bool) (l : List Cp) : upto hs l l.length = l.map (cln hs) := by simp [upto]
theorem sums_succ (hs : Int → Bool) (l : List Cp) (j : Nat) (c : Cp) (h : l[j]? = some c) : sums hs (l.take (j + 1)) = sums hs (l.take j) + sOne hs c := by
  obtain ⟨hj, he⟩ := List.getElem?_eq_some_iff.1 h
  unfold sums
  rw [List.take_succ_eq_append_getElem hj, List.map_append, List.sum_append, he]
  simp
theorem sums_le (hs : Int → Bool) (l : List Cp) : sums hs l ≤ l.length := by
  unfold sums
  induction l with
  | nil => exact Nat.le_refl _
  | cons c l ih => rw [List.map_cons, List.sum_cons, List.length_cons]; unfold sOne at ih ⊢; split <;> omega
theorem scaps1_any {B : Nat} {w : World} {pv : Option Addr} {hs : Int → Bool} (h : Hs B w pv hs) (hB : B ≤ w.heap.size) (g q1 q2 cap : Nat) (T : TypeId) (l : List Cp)
    (hg : At w g T (cat l).toArray) (hc : ∀ c ∈ l, c.cur < 4294967296) (h1 : At w q1 94 #[.func (.func 60) #[.agg #[.pointer pv]] #[]]) (h2 : At w q2 3 #[.int .i64 0]) (hl : l.length ≤ 1000) (hgq : g ≠ q2) (hgB : B ≤ g) (hqB : B ≤ q2) (hq1 : q1 ≠ g) (hq2 : q1 ≠ q2) (hcap : l.length ≤ cap) :
    Calls Try.prog 65 #[.slice (some ⟨g, 0, none⟩) l.length cap, .func (.func 90) #[] #[.pointer (some ⟨q1, 0, none⟩), .pointer (some ⟨q2, 0, none⟩)]] w fun r w' => (∃ v, r = .returned v) ∧ At w' g T (cat (l.map (cln hs))).toArray ∧ At w' q2 3 #[.int .i64 (sums hs l : Nat)] ∧ Fr [g, q2] w w' := by
  have HH := Lib.hid h
  have HC := Lib.hid hc
  have H1 := Lib.hid h1
  have HG := Lib.hid hg
  have H2 := Lib.hid h2
  obtain ⟨n, hn⟩ : ∃ n, l.length = n := ⟨_, rfl⟩
  have HN := Lib.hid hn
  rw [hn] at hl hcap ⊢
  clear h hc h1 hg h2 hn
  go_enter Try.func65, Try.ntmps65
  go_wp2
  go_loopw [7] (fun v wr => ∃ j : Nat, j ≤ n ∧ v = .int .i64 j ∧ At wr g T (cat (upto hs l j)).toArray ∧ At wr q2 3 #[.int .i64 (sums hs (l.take j) : Nat)] ∧ Fr [g, q2] w wr) (fun v _ => n - (intOf v).toNat)
  case atStart => exact ⟨0, by omega, rfl, by rw [upto_zero]; exact HG.out, H2.out, Fr.refl _ _⟩
  case round =>
    clear HG H2
    obtain ⟨j, hj, rfl, hg, h2, hf⟩ := hrel
    have HG := Lib.hid hg
    have H2 := Lib.hid h2
    have HF := Lib.hid hf
    clear hg h2 hf
    by_cases hlt : j < n
    · obtain ⟨c, hcj⟩ : ∃ c, l[j]? = some c := ⟨_, List.getElem?_eq_getElem (by rw [HN.out]; exact hlt)⟩
      have hle := sums_le hs (l.take j)
      have hlj : (l.take j).length ≤ j := List.length_take_le _ _
      have C := Lib.hid (clean1_any (HH.out.fr HF.out (by simp; exact ⟨hgB, hqB⟩)) (Nat.le_trans hB HF.out.size) g q1 q2 T _ j c _ HG.out (upto_get hs l j c hcj) (HC.out c (List.mem_of_getElem? hcj)) (H1.out.fr HF.out (by simp; exact ⟨hq1, hq2⟩)) H2.out (by omega) hgq hgB hqB)
      rw [upto_set hs l j c hcj, ← sums_succ hs l j c hcj] at C
      clear hcj hle hlj
      go_wp2_with fail
      refine (C.out).mono ?_
      rintro e w5 ⟨⟨v, rfl⟩, g5, q5, f5⟩
      have G5 := Lib.hid g5
      have Q5 := Lib.hid q5
      have F5 := Lib.hid (HF.out.trans f5 (by simp))
      clear g5 q5 f5 C
      go_wp2_with fail
      go_roundw
      case rel => exact ⟨j + 1, by omega, by go_num, G5.out, Q5.out, F5.out⟩
      case measure => simp [intOf]; omega
    · obtain rfl : j = n := by omega
      have HU := Lib.hid (show upto hs l j = l.map (cln hs) by rw [← HN.out, upto_all])
      have HT := Lib.hid (show l.take j = l by rw [← HN.out, List.take_length])
      go_wp2_with fail
      go_end0
      refine ⟨⟨_, rfl⟩, by rw [← HU.out]; exact HG.out, by have := H2.out; rw [HT.out] at this; exact this, HF.out⟩
theorem sclean_any {B : Nat} {w : World} {pv : Option Addr} {hs : Int → Bool} (h : Hs B w pv hs) (g cap : Nat) (T : TypeId) (l : List Cp)
    (hg : At w g T (cat l).toArray) (hc : ∀ c ∈ l, c.cur < 4294967296) (hl : l.length ≤ 1000) (hgB : B ≤ g) (hcap : l.length ≤ cap) :
    Calls Try.prog 64 #[.slice (some ⟨g, 0, none⟩) l.length cap, .pointer pv, .func (.func 65) #[] #[]] w fun r w' => r = .returned (.int .i64 (sums hs l : Nat)) ∧ At w' g T (cat (l.map (cln hs))).toArray ∧ Fr [g] w w' := by
  have hlt := hg.lt
  have F0 : Fr [] w ((w.alloc (.cells #[.func (.func 60) #[.agg #[.pointer pv]] #[]] 94)).alloc (.cells #[.int .i64 0] 3)) := (by repeat (first | exact Fr.refl _ _ | assumption | refine Fr.trans0 ?_ (by assumption) | refine Fr.drewN ?_ _ | refine Fr.alloc ?_ _ | refine Fr.drew ?_))
  have A1 := (At.new w 94 #[.func (.func 60) #[.agg #[.pointer pv]] #[]]).old (.cells #[.int .i64 0] 3)
  have A2 := At.new (w.alloc (.cells #[.func (.func 60) #[.agg #[.pointer pv]] #[]] 94)) 3 #[.int .i64 0]
  rw [World.size_alloc] at A2
  have C := Lib.hid (scaps1_any (h.fr F0 (by simp)) (by have := F0.size; omega) g w.heap.size (w.heap.size + 1) cap T l (hg.fr F0 (by simp)) hc A1 A2 hl (by omega) hgB (by omega) (by omega) (by omega) hcap)
  have HF0 := Lib.hid F0
  obtain ⟨n, hn⟩ : ∃ n, l.length = n := ⟨_, rfl⟩
  obtain ⟨s, hs1⟩ : ∃ s, sums hs l = s := ⟨_, rfl⟩
  rw [hn] at C ⊢
  rw [hs1] at C ⊢
  clear h hg hc hl F0 A1 A2 hcap hn hs1
  go_enter Try.func64, Try.ntmps64
  go_wp2_with fail
  refine (C.out).mono ?_
  rintro e w5 ⟨⟨v, rfl⟩, g5, q5, f5⟩
  have c := q5.cell 0
  simp only [List.getElem?_toArray, List.getElem?_cons_zero] at c
  have G5 := Lib.hid g5
  have F5 := Lib.hid ((HF0.out.more (T := [g]) (by simp)).trans f5 (by simp))
  clear g5 q5 f5
  go_wp2_with fail
  go_ret
  exact ⟨rfl, G5.out, F5.out⟩
end Go.Proofs.Ytilgklpponaoeaa
