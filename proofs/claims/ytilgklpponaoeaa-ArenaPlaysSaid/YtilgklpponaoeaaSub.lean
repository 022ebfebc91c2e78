/-
  Plain facts: what lies where behind a laying; a capability's bytes read back. No condition beside those stated.
-/





import Derived.Test.YtilgklpponaoeaaTagged
set_option linter.unusedVariables false
namespace Go.Proofs.Ytilgklpponaoeaa
open Go.ChangeShapes Go.WideShapes Go.ChangeAt Go.RowKit
def sub (bs : List Nat) (a n : Nat) : List Nat := (bs.drop a).take n
theorem putL_get (bs : List Nat) (a : Nat) (l : List Nat) (h : a + l.length ≤ bs.length) (i : Nat) : (putL bs a l)[i]? = if i < a then bs[i]? else if i < a + l.length then l[i - a]? else bs[i]? := by
  unfold putL
  have ht : (bs.take a).length = a := by rw [List.length_take]; omega
  by_cases h1 : i < a
  · rw [if_pos h1, List.append_assoc, List.getElem?_append_left (by omega), List.getElem?_take_of_lt h1]
  · rw [if_neg h1]
    by_cases h2 : i < a + l.length
    · rw [if_pos h2, List.getElem?_append_left (by rw [List.length_append]; omega), List.getElem?_append_right (by omega), ht]
    · rw [if_neg h2, List.getElem?_append_right (by rw [List.length_append]; omega), List.length_append, ht, List.getElem?_drop]
      congr 1; omega
theorem sub_get (bs : List Nat) (a n i : Nat) : (sub bs a n)[i]? = if i < n then bs[a + i]? else none := by
  unfold sub
  rw [List.getElem?_take, List.getElem?_drop]
theorem sub_pre (bs : List Nat) (a : Nat) (l : List Nat) (h : a + l.length ≤ bs.length) (k : Nat) (hk : k ≤ l.length) : sub (putL bs a l) a k = l.take k := by
  apply List.ext_getElem?
  intro i
  rw [sub_get, List.getElem?_take]
  by_cases hi : i < k
  · rw [if_pos hi, if_pos hi, putL_get bs a l h, if_neg (by omega), if_pos (by omega)]
    congr 1; omega
  · rw [if_neg hi, if_neg hi]
theorem sub_put (bs : List Nat) (a : Nat) (l : List Nat) (h : a + l.length ≤ bs.length) : sub (putL bs a l) a l.length = l := by
  rw [sub_pre bs a l h _ (Nat.le_refl _), List.take_length]
theorem sub_far (bs : List Nat) (a : Nat) (l : List Nat) (h : a + l.length ≤ bs.length) (b n : Nat) (hd : b + n ≤ a ∨ a + l.length ≤ b) : sub (putL bs a l) b n = sub bs b n := by
  apply List.ext_getElem?
  intro i
  rw [sub_get, sub_get]
  by_cases hi : i < n
  · rw [if_pos hi, if_pos hi, putL_get bs a l h]
    by_cases h1 : b + i < a
    · rw [if_pos h1]
    · rw [if_neg h1, if_neg (by omega)]
  · rw [if_neg hi, if_neg hi]
theorem wrL_sub_far (bs : List Nat) (a : Nat) (l : List Nat) (b n : Nat) (hd : b + n ≤ a ∨ a + l.length ≤ b) : sub (wrL bs a l) b n = sub bs b n := by
  unfold wrL
  split
  · exact sub_far bs a l (by assumption) b n hd
  · rfl
theorem wrL_sub (bs : List Nat) (a : Nat) (l : List Nat) (h : a + l.length ≤ bs.length) (n : Nat) (hn : n = l.length) : sub (wrL bs a l) a n = l := by
  unfold wrL
  rw [if_pos h, hn, sub_put bs a l h]
theorem ofB0_bytes (c : Cp) (hc : c.Ok) : ofB0 (bytesC c) = { c with rs := c.rs % 16777216, v := false } := by
  have e0 : fld (bytesC c) 0 4 = c.cur % 256 ^ 4 := unle_le 4 c.cur
  have e1 : fld (bytesC c) 4 1 = c.e % 256 ^ 1 := unle_le 1 c.e
  have e2 : fld (bytesC c) 5 2 = c.b % 256 ^ 2 := unle_le 2 c.b
  have e3 : fld (bytesC c) 7 2 = c.t % 256 ^ 2 := unle_le 2 c.t
  have e4 : fld (bytesC c) 9 2 = c.pm % 256 ^ 2 := unle_le 2 c.pm
  have e5 : fld (bytesC c) 11 2 = c.ty % 256 ^ 2 := unle_le 2 c.ty
  have e6 : fld (bytesC c) 13 2 = c.rs % 65536 % 256 ^ 2 := unle_le 2 (c.rs % 65536)
  have e7 : fld (bytesC c) 15 1 = c.rs / 65536 % 256 % 256 ^ 1 := unle_le 1 (c.rs / 65536 % 256)
  have h0 := hc.cur; have h1 := hc.e; have h2 := hc.b; have h3 := hc.t; have h4 := hc.pm; have h5 := hc.ty; have h6 := hc.rs
  unfold ofB0
  rw [e0, e1, e2, e3, e4, e5, e6, e7]
  congr 1 <;> omega
theorem ofB_bytes (c : Cp) (hc : c.Ok) (v : Bool) (hr : c.rs < 16777216) : ofB (bytesC c) v = { c with v := v && soundB c } := by
  unfold ofB
  rw [ofB0_bytes c hc]
  have e : c.rs % 16777216 = c.rs := by omega
  rw [e]
  rfl
theorem clr_get (f : Nat → Bool) (a b i : Nat) : clr f a b i = (f i && !(decide (a ≤ i) && decide (i < b))) := rfl
theorem putF_get (f : Nat → Bool) (a n i : Nat) : putF f a n i = (f i && !(decide (a / 16 ≤ i) && decide (i ≤ (a + n - 1) / 16))) := by
  unfold putF
  rw [clr_get]
  congr 2
  by_cases h : i ≤ (a + n - 1) / 16
  · rw [decide_eq_true h, decide_eq_true (show i < (a + n - 1) / 16 + 1 by omega)]
  · rw [decide_eq_false h, decide_eq_false (show ¬ i < (a + n - 1) / 16 + 1 by omega)]
end Go.Proofs.Ytilgklpponaoeaa
