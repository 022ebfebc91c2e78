/-
  Places of 16 bytes, each with a state: the lists of those that wait, and of the batch. No condition.
-/



import Derived.Test.YtflhpgfnffmimaaWorks
set_option linter.unusedVariables false
namespace Go.Proofs.Ytflhpgfnffmimaa
open Go.ChangeShapes Go.WideShapes Go.ChangeAt Go.RowKit
namespace once
def rg (k : Nat) : Nat × Nat := (16 * k, 16)
def fl (f : Nat → Nat) (v n : Nat) : List (Nat × Nat) := ((List.range n).filter fun k => f k == v).map rg
theorem fl_zero (f : Nat → Nat) (v : Nat) : fl f v 0 = [] := rfl
theorem fl_yes {f : Nat → Nat} {v n : Nat} (h : f n = v) : fl f v (n + 1) = fl f v n ++ [rg n] := by
  unfold fl; rw [List.range_succ, List.filter_append, List.map_append]; simp [h]
theorem fl_no {f : Nat → Nat} {v n : Nat} (h : f n ≠ v) : fl f v (n + 1) = fl f v n := by
  unfold fl; rw [List.range_succ, List.filter_append, List.map_append]; simp [h]
theorem fl_congr {f g : Nat → Nat} {v w : Nat} : ∀ {n : Nat}, (∀ k, k < n → (f k = v ↔ g k = w)) → fl f v n = fl g w n
  | 0, _ => rfl
  | n + 1, h => by
    have ih := fl_congr (n := n) fun k hk => h k (by omega)
    by_cases e : f n = v
    · rw [fl_yes e, fl_yes ((h n (by omega)).1 e), ih]
    · rw [fl_no e, fl_no (fun e' => e ((h n (by omega)).2 e')), ih]
theorem fl_none {f : Nat → Nat} {v : Nat} : ∀ {n : Nat}, (∀ k, k < n → f k ≠ v) → fl f v n = []
  | 0, _ => rfl
  | n + 1, h => by rw [fl_no (h n (by omega))]; exact fl_none fun k hk => h k (by omega)
theorem fl_nil {f : Nat → Nat} {v : Nat} : ∀ {n : Nat}, fl f v n = [] → ∀ k, k < n → f k ≠ v
  | 0, _, k, hk => by omega
  | n + 1, h, k, hk => by
    by_cases e : f n = v
    · rw [fl_yes e] at h; simp at h
    · rw [fl_no e] at h
      by_cases e' : k = n
      · subst e'; exact e
      · exact fl_nil h k (by omega)
theorem fl_mono (f : Nat → Nat) (v : Nat) : ∀ {m n : Nat}, m ≤ n → (fl f v m).length ≤ (fl f v n).length
  | m, 0, h => by obtain rfl : m = 0 := by omega
                  exact Nat.le_refl _
  | m, n + 1, h => by
    by_cases e : m = n + 1
    · subst e; exact Nat.le_refl _
    · have ih := fl_mono f v (m := m) (n := n) (by omega)
      by_cases e : f n = v
      · rw [fl_yes e, List.length_append]; omega
      · rw [fl_no e]; exact ih
theorem fl_le (f : Nat → Nat) (v : Nat) : ∀ n : Nat, (fl f v n).length ≤ n
  | 0 => Nat.le_refl _
  | n + 1 => by
    have := fl_le f v n
    by_cases e : f n = v
    · rw [fl_yes e, List.length_append]; simp; omega
    · rw [fl_no e]; omega
theorem fl_get {f : Nat → Nat} {v k : Nat} (h : f k = v) : ∀ {n : Nat}, k < n → (fl f v n)[(fl f v k).length]? = some (rg k)
  | 0, hk => by omega
  | n + 1, hk => by
    by_cases e : k = n
    · subst e
      rw [fl_yes h, List.getElem?_append_right (Nat.le_refl _), Nat.sub_self]; rfl
    · have ih := fl_get h (n := n) (by omega)
      have hl : (fl f v k).length < (fl f v n).length := by
        rcases Nat.lt_or_ge (fl f v k).length (fl f v n).length with h | h
        · exact h
        · rw [List.getElem?_eq_none h] at ih; cases ih
      by_cases e : f n = v
      · rw [fl_yes e, List.getElem?_append_left hl]; exact ih
      · rw [fl_no e]; exact ih
theorem cov_fl (f : Nat → Nat) (v x : Nat) : ∀ n, cov (fl f v n) x = (decide (x < n) && (f x == v))
  | 0 => by simp [fl_zero, cov]
  | n + 1 => by
    have ih := cov_fl f v x n
    have hx : x = n ∨ x < n ∨ n < x := by omega
    by_cases e : f n = v
    · rw [fl_yes e]
      unfold cov at ih ⊢
      rw [List.any_append, ih]
      rcases hx with rfl | hx | hx
      · simp [rg, e]
      · have h1 : ¬ (16 * n ≤ 16 * x) := by omega
        simp [rg, hx, show x < n + 1 by omega, h1]
      · have h1 : ¬ (16 * x < 16 * n + 16) := by omega
        simp [rg, h1, show ¬ x < n by omega, show ¬ x < n + 1 by omega]
    · rw [fl_no e, ih]
      rcases hx with rfl | hx | hx
      · simp [e]
      · simp [hx, show x < n + 1 by omega]
      · simp [show ¬ x < n by omega, show ¬ x < n + 1 by omega]
theorem tch_one (g : Nat → Bool) (x : Nat) : tch g x 1 = g x := by unfold tch; simp [List.range_succ]
def setN (f : Nat → Nat) (x v : Nat) : Nat → Nat := fun k => if k = x then v else f k
theorem setN_at (f : Nat → Nat) (x v : Nat) : setN f x v x = v := if_pos rfl
theorem setN_ne (f : Nat → Nat) {x v k : Nat} (h : k ≠ x) : setN f x v k = f k := if_neg h
theorem tw_all {p : Nat × Nat → Bool} : ∀ {l : List (Nat × Nat)}, (∀ r ∈ l, p r = true) → l.takeWhile p = l
  | [], _ => rfl
  | r :: l, h => by rw [List.takeWhile_cons_of_pos (h r (by simp)), tw_all fun r hr => h r (by simp [hr])]
theorem take_fl {f : Nat → Nat} {v x : Nat} (h : f x ≠ v) : ∀ {n : Nat}, x ≤ n → (fl f v n).takeWhile (fun r => decide (r.1 < 16 * x)) = fl f v x
  | 0, hx => by obtain rfl : x = 0 := by omega
                rfl
  | n + 1, hx => by
    by_cases e : x = n + 1
    · subst e
      refine tw_all fun r hr => ?_
      unfold fl at hr
      obtain ⟨k, hk, rfl⟩ := List.mem_map.1 hr
      have := (List.mem_filter.1 hk).1
      rw [List.mem_range] at this
      simp [rg]; omega
    · have ih := take_fl h (n := n) (by omega)
      by_cases e : f n = v
      · rw [fl_yes e, List.takeWhile_append, ih]
        split
        · rw [List.takeWhile_cons_of_neg (by simp [rg]; omega)]
          rename_i hl
          rw [List.append_nil]
          exact (List.takeWhile_prefix _).eq_of_length (by rw [ih]; exact hl) ▸ ih
        · rfl
      · rw [fl_no e]; exact ih
theorem ins_fl {f : Nat → Nat} {x : Nat} (h : f x ≠ 1) : ∀ {n : Nat}, x < n → fl (setN f x 1) 1 n = insL (fl f 1 n) (fl f 1 x).length (rg x)
  | 0, hx => by omega
  | n + 1, hx => by
    by_cases e : x = n
    · subst e
      rw [fl_yes (setN_at f x 1), fl_no h]
      unfold insL
      rw [List.take_length, List.drop_length, fl_congr (g := f) (w := 1) fun k hk => by rw [setN_ne f (by omega)]]
    · have ih := ins_fl h (n := n) (by omega)
      have hm := fl_mono f 1 (m := x) (n := n) (by omega)
      have hs : setN f x 1 n = f n := setN_ne f (by omega)
      by_cases e : f n = 1
      · rw [fl_yes (hs.trans e), fl_yes e, ih]
        unfold insL
        rw [List.take_append_of_le_length hm, List.drop_append_of_le_length hm]
        simp
      · rw [fl_no (fun h => e (hs.symm.trans h)), fl_no e, ih]
theorem put_fl {f : Nat → Nat} {x : Nat} (h : f x ≠ 1) (hx : x < 200) : put (fl f 1 200) (16 * x, 16) = fl (setN f x 1) 1 200 := by
  rw [ins_fl h hx]
  unfold put pl
  rw [take_fl h (by omega)]
  rfl
/-- The yard of a table of states. -/
def ms (ep : Nat) (sw : Bool) (f : Nat → Nat) : MS := ⟨256, ep, sw, fl f 1 200, fl f 2 200⟩
structure Fit (f : Nat → Nat) (sw : Bool) : Prop where
  le : ∀ k, k < 200 → f k ≤ 2
  still : sw = false → fl f 2 200 = []
theorem frB_ms (ep : Nat) (sw : Bool) (f : Nat → Nat) (h : Fit f sw) (x : Nat) (hx : x < 200) : frB (ms ep sw f) (16 * x) 16 = (f x == 0) := by
  have hl := h.le x hx
  unfold frB ms
  rw [decide_eq_true (by dsimp only; omega), show 16 * x / 16 = x by omega, show 16 / 16 = 1 from rfl, tch_one, tch_one, cov_fl, cov_fl, decide_eq_true hx]
  simp only [Bool.true_and]
  have : f x = 0 ∨ f x = 1 ∨ f x = 2 := by omega
  rcases this with e | e | e <;> rw [e] <;> rfl
theorem free_ms (ep : Nat) (sw : Bool) (f : Nat → Nat) (h : Fit f sw) (x : Nat) (hx : x < 200) (h0 : f x = 0) : mFree (ms ep sw f) (16 * x) 16 = ms ep sw (setN f x 1) ∧ Fit (setN f x 1) sw := by
  have h2 : fl (setN f x 1) 2 200 = fl f 2 200 := fl_congr fun k hk => by
    by_cases e : k = x
    · subst e; rw [setN_at, h0]; omega
    · rw [setN_ne f e]
  refine ⟨?_, fun k hk => ?_, fun hs => h2.trans (h.still hs)⟩
  · unfold mFree
    rw [frB_ms ep sw f h x hx, h0, if_pos (show ((0 : Nat) == 0) = true from rfl)]
    unfold ms
    rw [put_fl (by omega) hx, h2]
  · by_cases e : k = x
    · subst e; rw [setN_at]; omega
    · rw [setN_ne f e]; exact h.le k hk
theorem free_no (ep : Nat) (sw : Bool) (f : Nat → Nat) (h : Fit f sw) (x : Nat) (hx : x < 200) (h0 : f x ≠ 0) : mFree (ms ep sw f) (16 * x) 16 = ms ep sw f := by
  unfold mFree
  rw [frB_ms ep sw f h x hx, if_neg (by simpa using h0)]
/-- The states below k turned from a to b. -/
def trn (f : Nat → Nat) (a b k : Nat) : Nat → Nat := fun j => if j < k ∧ f j = a then b else f j
theorem trn_zero (f : Nat → Nat) (a b : Nat) : trn f a b 0 = f := funext fun j => if_neg (by omega)
theorem trn_at (f : Nat → Nat) (a b k : Nat) : trn f a b k k = f k := if_neg (by omega)
theorem trn_yes {f : Nat → Nat} {a b k : Nat} (h : f k = a) : setN (trn f a b k) k b = trn f a b (k + 1) := funext fun j => by
  unfold setN trn
  by_cases e : j = k
  · subst e; rw [if_pos rfl, if_pos ⟨by omega, h⟩]
  · rw [if_neg e]
    by_cases g : j < k ∧ f j = a
    · rw [if_pos g, if_pos ⟨by omega, g.2⟩]
    · rw [if_neg g, if_neg (fun g' => g ⟨by omega, g'.2⟩)]
theorem trn_no {f : Nat → Nat} {a b k : Nat} (h : f k ≠ a) : trn f a b k = trn f a b (k + 1) := funext fun j => by
  unfold trn
  by_cases g : j < k ∧ f j = a
  · rw [if_pos g, if_pos ⟨by omega, g.2⟩]
  · rw [if_neg g]
    by_cases e : j = k
    · subst e; rw [if_neg (fun g' => h g'.2)]
    · rw [if_neg (fun g' => g ⟨by omega, g'.2⟩)]
theorem begin_ms (ep : Nat) (f : Nat → Nat) (h : Fit f false) : mBegin (ms ep false f) = ms (ep + 1) true (trn f 1 2 200) ∧ Fit (trn f 1 2 200) true := by
  have h2 := fl_nil (h.still rfl)
  refine ⟨?_, fun k hk => ?_, fun h => by cases h⟩
  · have a1 : fl (trn f 1 2 200) 1 200 = [] := fl_none fun k hk => by
      unfold trn
      by_cases e : f k = 1
      · rw [if_pos ⟨hk, e⟩]; omega
      · rw [if_neg (fun g => e g.2)]; exact e
    have a2 : fl (trn f 1 2 200) 2 200 = fl f 1 200 := fl_congr fun k hk => by
      unfold trn
      by_cases e : f k = 1
      · rw [if_pos ⟨hk, e⟩]; simp [e]
      · rw [if_neg (fun g => e g.2)]; simp [h2 k hk, e]
    unfold ms mBegin
    rw [a1, a2]
    rfl
  · unfold trn
    have := h.le k hk
    split <;> omega
theorem begin_no (ep : Nat) (f : Nat → Nat) : mBegin (ms ep true f) = ms ep true f := rfl
theorem end_ms (ep : Nat) (sw : Bool) (f : Nat → Nat) (h : Fit f sw) : mEnd (ms ep sw f) = ms ep false (trn f 2 0 200) ∧ Fit (trn f 2 0 200) false ∧ (if sw = true then fl f 2 200 else []) = fl f 2 200 := by
  have a2 : fl (trn f 2 0 200) 2 200 = [] := fl_none fun k hk => by
    unfold trn
    by_cases e : f k = 2
    · rw [if_pos ⟨hk, e⟩]; omega
    · rw [if_neg (fun g => e g.2)]; exact e
  have a1 : fl (trn f 2 0 200) 1 200 = fl f 1 200 := fl_congr fun k hk => by
    unfold trn
    by_cases e : f k = 2
    · rw [if_pos ⟨hk, e⟩]; simp [e]
    · rw [if_neg (fun g => e g.2)]
  refine ⟨?_, ⟨fun k hk => ?_, fun _ => a2⟩, ?_⟩
  · unfold ms mEnd
    rw [a1, a2]
    cases sw with
    | false => simp [h.still rfl]
    | true => rfl
  · unfold trn
    have := h.le k hk
    split <;> omega
  · cases sw with
    | false => simp [h.still rfl]
    | true => rfl
theorem fit0 : Fit (fun _ => 0) false := ⟨fun _ _ => by omega, fun _ => fl_none fun _ _ => by omega⟩
theorem ms0 : (⟨256, 0, false, [], []⟩ : MS) = ms 0 false (fun _ => 0) := by
  unfold ms
  rw [fl_none (fun _ _ => by omega), fl_none (fun _ _ => by omega)]
end once
end Go.Proofs.Ytflhpgfnffmimaa
