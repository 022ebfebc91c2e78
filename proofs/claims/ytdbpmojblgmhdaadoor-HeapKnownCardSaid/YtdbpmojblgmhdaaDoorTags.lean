/-
  What the functions of tags compute: a map of n places at block p, its words at block g, holds the set f. Conditions: as stated.
-/


import Derived.Test.YtdbpmojblgmhdaaDoorWords
set_option linter.unusedVariables false
namespace Go.Proofs.YtdbpmojblgmhdaaDoor
open Go.ChangeShapes Go.WideShapes Go.ChangeAt Go.RowKit
def Tg (w : World) (p g n : Nat) (f : Nat → Bool) : Prop :=
  p ≠ g ∧ n ≤ 1048576 ∧ (∀ i, n ≤ i → f i = false) ∧ ∃ (c : Nat) (cs : Array Value), (n + 63) / 64 ≤ c ∧ At w p 108 #[.int .i64 n, .slice (some ⟨g, 0, none⟩) ((n + 63) / 64) c] ∧ At w g 45 cs ∧
    ∀ k, k < (n + 63) / 64 → cs[k]? = some (.int .u64 (wrd f k))
section
variable {w w' v : World} {p g n : Nat} {f : Nat → Bool} {S : List Nat}
theorem Tg.fr (h : Tg w p g n f) (hf : Fr S w w') (hp : p ∉ S) (hg : g ∉ S) : Tg w' p g n f := by
  obtain ⟨h1, h2, h3, c, cs, h4, h5, h6, h7⟩ := h
  exact ⟨h1, h2, h3, c, cs, h4, h5.fr hf hp, h6.fr hf hg, h7⟩
theorem Tg.frh (h : Tg w p g n f) (hf : Fr S v w') (hv : v.heap = w.heap) (hp : p ∉ S) (hg : g ∉ S) : Tg w' p g n f := by
  obtain ⟨h1, h2, h3, c, cs, h4, h5, h6, h7⟩ := h
  exact ⟨h1, h2, h3, c, cs, h4, h5.frh hf hv hp, h6.frh hf hv hg, h7⟩
theorem Tg.heap (h : Tg w p g n f) (hv : w'.heap = w.heap) : Tg w' p g n f := by
  unfold Tg At at *; rw [hv]; exact h
theorem Tg.drewN (h : Tg w p g n f) (m : Nat) : Tg (w.drewN m) p g n f := h.heap rfl
theorem Tg.lt (h : Tg w p g n f) : p < w.heap.size ∧ g < w.heap.size := by
  obtain ⟨h1, h2, h3, c, cs, h4, h5, h6, h7⟩ := h
  exact ⟨h5.lt, h6.lt⟩
theorem Tg.c0 (h : Tg w p g n f) : w.cell? ⟨p, 0, none⟩ = some (.int .i64 n) := by
  obtain ⟨h1, h2, h3, c, cs, h4, h5, h6, h7⟩ := h
  exact h5.cell 0
theorem Tg.c1 (h : Tg w p g n f) : ∃ c, (n + 63) / 64 ≤ c ∧ w.cell? ⟨p, 1, none⟩ = some (.slice (some ⟨g, 0, none⟩) ((n + 63) / 64) c) := by
  obtain ⟨h1, h2, h3, c, cs, h4, h5, h6, h7⟩ := h
  exact ⟨c, h4, h5.cell 1⟩
theorem Tg.ck (h : Tg w p g n f) (k : Nat) (hk : k < (n + 63) / 64) : w.cell? ⟨g, k, none⟩ = some (.int .u64 (wrd f k)) := by
  obtain ⟨h1, h2, h3, c, cs, h4, h5, h6, h7⟩ := h
  exact (h6.cell k).trans (h7 k hk)
theorem Tg.fk (h : Tg w p g n f) (k : Nat) : w.frozen? ⟨g, k, none⟩ = false := by
  obtain ⟨h1, h2, h3, c, cs, h4, h5, h6, h7⟩ := h
  exact h6.froz k
end
def inR (at_ : Int) (n : Nat) : Bool := decide (0 ≤ at_) && decide (at_ < n)

theorem infoU64 : (Tryd.prog.info? 45).map (fun i => (i.zero, i.size, i.bytes)) = some (some (.int .u64 0), 1, 8) := by kernel_rfl
theorem made_rep (z : Value) (n : Nat) : madeCells #[z] n = Array.replicate n z := by
  unfold madeCells
  refine Array.ext_getElem? fun i => ?_
  by_cases h : i < n <;> simp [h, Nat.mod_one]
theorem new_any (n : Nat) (w : World) (hn : n ≤ 1048576) :
    Calls Tryd.prog 43 #[.int .i64 n] w fun r w' => ∃ p g, r = .returned (.pointer (some ⟨p, 0, none⟩)) ∧ Tg w' p g n (fun _ => false) ∧ w.heap.size ≤ p ∧ w.heap.size ≤ g ∧ Fr [] w w' := by
  have hmk := run_make_row' (P := Tryd.prog) 106 45 (.int .u64 0) 8 Tryd.underlying106 infoU64 rfl .i64 .i64 ((n + 63) / 64) (by omega) (by omega)
  have hsz : ((n : Int) + 64 - 1) / 64 = (((n + 63) / 64 : Nat) : Int) := by omega
  obtain ⟨k, hk⟩ : ∃ k, k = (n + 63) / 64 := ⟨_, rfl⟩
  rw [← hk] at hmk hsz
  have Hk := Lib.hid hk
  clear hk
  go_enter Tryd.func43, Tryd.ntmps43
  go_wp2
  go_ret
  refine ⟨w.heap.size + 1, w.heap.size, rfl, ⟨by omega, hn, fun _ _ => rfl, k, Array.replicate k (.int .u64 0), by rw [Hk.out]; exact Nat.le_refl _, ?_, ?_, ?_⟩, by omega, by omega, ((Fr.refl _ _).alloc _).alloc _⟩
  · rw [← Hk.out]
    have := At.new (w.alloc (.cells (madeCells #[.int .u64 0] k) 45)) 108 #[.int .i64 n, .slice (some ⟨w.heap.size, 0, none⟩) k k]
    rw [World.size_alloc] at this
    exact this
  · refine At.old ?_ _
    rw [← made_rep]
    exact At.new _ _ _
  · intro i hi
    have := wa_get n (fun _ => false) i hi
    rw [wa_new] at this
    rw [Hk.out]
    exact this
theorem new_bad (n : Int) (w : World) (hn : n < 0 ∨ 1048576 < n) :
    Calls Tryd.prog 43 #[.int .i64 n] w fun r w' => r = .returned (.pointer none) ∧ w = w' := by
  rcases hn with h | h
  · go_enter Tryd.func43, Tryd.ntmps43
    go_wp2
    go_ret
    exact ⟨rfl, rfl⟩
  · have h2 : 0 ≤ n := by omega
    go_enter Tryd.func43, Tryd.ntmps43
    go_wp2
    go_ret
    exact ⟨rfl, rfl⟩
theorem len_any (w : World) (p g n : Nat) (f : Nat → Bool) (h : Tg w p g n f) :
    Calls Tryd.prog 45 #[.pointer (some ⟨p, 0, none⟩)] w fun r w' => r = .returned (.int .i64 n) ∧ w = w' := by
  have c0 := h.c0
  have hn := h.2.1
  go_enter Tryd.func45, Tryd.ntmps45
  go_wp2
  go_ret
  exact ⟨rfl, rfl⟩
theorem there_any (w : World) (p g n : Nat) (f : Nat → Bool) (h : Tg w p g n f) (i : Int) :
    Calls Tryd.prog 65 #[.pointer (some ⟨p, 0, none⟩), .int .i64 i] w fun r w' => r = .returned (.bool (inR i n)) ∧ w = w' := by
  have c0 := h.c0
  have hn := h.2.1
  by_cases h0 : 0 ≤ i
  · by_cases h1 : i < n
    · have e : inR i n = true := by simp [inR, h0, h1]
      rw [e]
      go_enter Tryd.func65, Tryd.ntmps65
      go_wp2
      go_ret
      exact ⟨rfl, rfl⟩
    · have e : inR i n = false := by simp [inR, h0, h1]
      rw [e]
      go_enter Tryd.func65, Tryd.ntmps65
      go_wp2
      go_ret
      exact ⟨rfl, rfl⟩
  · have e : inR i n = false := by simp [inR, h0]
    rw [e]
    go_enter Tryd.func65, Tryd.ntmps65
    go_wp2
    go_ret
    exact ⟨rfl, rfl⟩
theorem there_nil (w : World) (i : Int) :
    Calls Tryd.prog 65 #[.pointer none, .int .i64 i] w fun r w' => r = .returned (.bool false) ∧ w = w' := by
  go_enter Tryd.func65, Tryd.ntmps65
  go_wp2
  go_ret
  exact ⟨rfl, rfl⟩
theorem len_nil (w : World) : Calls Tryd.prog 45 #[.pointer none] w fun r w' => r = .returned (.int .i64 0) ∧ w = w' := by
  go_enter Tryd.func45, Tryd.ntmps45
  go_wp2
  go_ret
  exact ⟨rfl, rfl⟩
theorem inR_nat (i n : Nat) (h : i < n) : inR i n = true := by simp [inR, h]
theorem get_int (W e : Nat) (hW : W < 18446744073709551616) : (bits .and .u64 ((W : Int) / 2 ^ e) 1 == 1) = ((W / 2 ^ e &&& 1) == 1) := by
  have h1 : ((W : Int) / 2 ^ e) = ((W / 2 ^ e : Nat) : Int) := by simp
  have h2 : W / 2 ^ e < 18446744073709551616 := Nat.lt_of_le_of_lt (Nat.div_le_self _ _) hW
  rw [h1, show (1 : Int) = ((1 : Nat) : Int) by rfl, band _ _ h2 (by omega)]
  have : ∀ a : Nat, (((a : Nat) : Int) == ((1 : Nat) : Int)) = (a == 1) := fun a => by
    rw [Bool.eq_iff_iff]; simp; omega
  exact this _
theorem get_nil (w : World) (i : Int) :
    Calls Tryd.prog 75 #[.pointer none, .int .i64 i] w fun r w' => r = .returned (.bool false) ∧ w = w' := by
  go_enter Tryd.func75, Tryd.ntmps75
  go_wp2_with (go_at_call 65; refine (there_nil _ _).mono ?_; rintro e w' ⟨rfl, rfl⟩)
  go_ret
  exact ⟨rfl, rfl⟩
theorem get_any (w : World) (p g n : Nat) (f : Nat → Bool) (h : Tg w p g n f) (i : Int) :
    Calls Tryd.prog 75 #[.pointer (some ⟨p, 0, none⟩), .int .i64 i] w fun r w' => r = .returned (.bool (inR i n && f i.toNat)) ∧ w = w' := by
  have C := Lib.hid (there_any w p g n f h i)
  by_cases hi : inR i n = true
  · obtain ⟨i, rfl⟩ := Int.eq_ofNat_of_zero_le (show 0 ≤ i by simp [inR] at hi; omega)
    have hin : i < n := by simp [inR] at hi; omega
    rw [hi] at C
    have hn := h.2.1
    obtain ⟨cp, hcp, c1⟩ := h.c1
    have ck := h.ck (i / 64) (by omega)
    have hg := wrd_get f i
    have hl := wrd_lt f (i / 64)
    have Hg := Lib.hid (show (bits .and .u64 ((wrd f (i / 64) : Int) / 2 ^ (i % 64)) 1 == 1) = (inR i n && f i) by rw [get_int _ _ hl, hg, hi, Bool.true_and])
    have hl' : Hid (wrd f (i / 64) < 18446744073709551616) := Lib.hid hl
    clear hg hi hl
    generalize wrd f (i / 64) = W at *
    go_enter Tryd.func75, Tryd.ntmps75
    go_wp2_with (go_at_call 65; refine (C.out).mono ?_; rintro e w' ⟨rfl, rfl⟩)
    go_ret
    refine ⟨ret_bool ?_, rfl⟩
    rw [Int.toNat_natCast]
    exact Hg.out
  · simp only [Bool.not_eq_true] at hi
    rw [hi, Bool.false_and]
    rw [hi] at C
    go_enter Tryd.func75, Tryd.ntmps75
    go_wp2_with (go_at_call 65; refine (C.out).mono ?_; rintro e w' ⟨rfl, rfl⟩)
    go_ret
    exact ⟨rfl, rfl⟩
theorem shl_one (e : Nat) (h : e < 64) : IntKind.u64.wrap ((2 : Int) ^ e) = ((2 ^ e : Nat) : Int) := by
  have : 2 ^ e < 2 ^ 64 := Nat.pow_lt_pow_right (by omega) h
  rw [show (2 : Int) ^ e = ((2 ^ e : Nat) : Int) by simp, wrap_nat _ (by omega)]
theorem bor (a b : Nat) (ha : a < 18446744073709551616) (hb : b < 18446744073709551616) : bits .or .u64 (a : Int) (b : Int) = ((a ||| b : Nat) : Int) := u64_or_nat a b ha hb
theorem bnot (a b : Nat) (ha : a < 18446744073709551616) (hb : b < 18446744073709551616) : bits .andNot .u64 (a : Int) (b : Int) = ((a &&& (18446744073709551615 - b) : Nat) : Int) := u64_andNot_nat a b ha hb
theorem Tg.put {w : World} {p g n : Nat} {f f' : Nat → Bool} (h : Tg w p g n f) (k v : Nat) (hv : v = wrd f' k) (ho : ∀ j, j ≠ k → wrd f' j = wrd f j) (h0 : ∀ i, n ≤ i → f' i = false) :
    Tg (w.setCell ⟨g, k, none⟩ (.int .u64 v)) p g n f' := by
  obtain ⟨h1, h2, h3, c, cs, h4, h5, h6, h7⟩ := h
  refine ⟨h1, h2, h0, c, cs.setIfInBounds k (.int .u64 v), h4, h5.far (show p ≠ g from h1) _, h6.set k _, fun j hj => ?_⟩
  rw [Array.getElem?_setIfInBounds]
  by_cases e : k = j
  · subst e
    have hs : k < cs.size := by
      rcases Nat.lt_or_ge k cs.size with hl | hl
      · exact hl
      · have q := h7 k hj
        rw [Array.getElem?_eq_none hl] at q; cases q
    rw [if_pos rfl, if_pos hs, hv]
  · rw [if_neg e, h7 j hj, ho j (fun x => e x.symm)]
theorem put_nil (w : World) (i : Int) (b : Bool) :
    Calls Tryd.prog 47 #[.pointer none, .int .i64 i, .bool b] w fun r w' => r = .returned (.bool false) ∧ w = w' := by
  go_enter Tryd.func47, Tryd.ntmps47
  go_wp2_with (go_at_call 65; refine (there_nil _ _).mono ?_; rintro e w' ⟨rfl, rfl⟩)
  go_ret
  exact ⟨rfl, rfl⟩
theorem put_no (w : World) (p g n : Nat) (f : Nat → Bool) (h : Tg w p g n f) (i : Int) (b : Bool) (hi : inR i n = false) :
    Calls Tryd.prog 47 #[.pointer (some ⟨p, 0, none⟩), .int .i64 i, .bool b] w fun r w' => r = .returned (.bool false) ∧ w = w' := by
  have C := Lib.hid (there_any w p g n f h i)
  rw [hi] at C
  clear hi
  go_enter Tryd.func47, Tryd.ntmps47
  go_wp2_with (go_at_call 65; refine (C.out).mono ?_; rintro e w' ⟨rfl, rfl⟩)
  go_ret
  exact ⟨rfl, rfl⟩
theorem upd_out {n : Nat} {f : Nat → Bool} (h : ∀ i, n ≤ i → f i = false) (i : Nat) (b : Bool) (hi : i < n) : ∀ j, n ≤ j → upd f i b j = false := fun j hj => by
  unfold upd; rw [if_neg (by omega)]; exact h j hj
theorem put_yes (w : World) (p g n : Nat) (f : Nat → Bool) (h : Tg w p g n f) (i : Nat) (b : Bool) (hi : i < n) :
    Calls Tryd.prog 47 #[.pointer (some ⟨p, 0, none⟩), .int .i64 i, .bool b] w fun r w' => r = .returned (.bool true) ∧ Tg w' p g n (upd f i b) ∧ Fr [g] w w' := by
  have C := Lib.hid (there_any w p g n f h i)
  rw [inR_nat i n hi] at C
  have hn := h.2.1
  obtain ⟨cp, hcp, c1⟩ := h.c1
  have ck := h.ck (i / 64) (by omega)
  have fk := h.fk (i / 64)
  have hl := wrd_lt f (i / 64)
  have hsh := shl_one (i % 64) (by omega)
  have hp : 2 ^ (i % 64) < 18446744073709551616 := show 2 ^ (i % 64) < 2 ^ 64 from Nat.pow_lt_pow_right (by omega) (by omega)
  cases b
  · have hor := bnot _ _ hl hp
    have hw := Lib.hid (h.put (f' := upd f i false) (i / 64) _ (wrd_clr f i) (fun j hj => wrd_other f i false j hj) (upd_out h.2.2.1 i false hi))
    rw [← hsh] at hor
    generalize wrd f (i / 64) &&& (18446744073709551615 - 2 ^ (i % 64)) = V at *
    generalize wrd f (i / 64) = W at *
    clear hl hp hsh
    go_enter Tryd.func47, Tryd.ntmps47
    go_wp2_with (go_at_call 65; refine (C.out).mono ?_; rintro e w' ⟨rfl, rfl⟩)
    go_ret
    exact ⟨rfl, hw.out, (Fr.refl _ _).set (.inl (by simp)) _⟩
  · have hor := bor _ _ hl hp
    have hw := Lib.hid (h.put (f' := upd f i true) (i / 64) _ (wrd_set f i) (fun j hj => wrd_other f i true j hj) (upd_out h.2.2.1 i true hi))
    rw [← hsh] at hor
    generalize wrd f (i / 64) ||| 2 ^ (i % 64) = V at *
    generalize wrd f (i / 64) = W at *
    clear hl hp hsh
    go_enter Tryd.func47, Tryd.ntmps47
    go_wp2_with (go_at_call 65; refine (C.out).mono ?_; rintro e w' ⟨rfl, rfl⟩)
    go_ret
    exact ⟨rfl, hw.out, (Fr.refl _ _).set (.inl (by simp)) _⟩
theorem ones_div (e : Nat) (h : e ≤ 64) : 18446744073709551615 / 2 ^ e = 2 ^ (64 - e) - 1 := by
  have h1 : 18446744073709551616 = 2 ^ (64 - e) * 2 ^ e := by rw [← Nat.pow_add, show 64 - e + e = 64 by omega]
  have h2 : 0 < 2 ^ e := Nat.two_pow_pos e
  have h3 : 0 < 2 ^ (64 - e) := Nat.two_pow_pos _
  have h4 : 18446744073709551615 = (2 ^ e - 1) + (2 ^ (64 - e) - 1) * 2 ^ e := by
    rw [Nat.sub_mul, ← h1]
    have h5 : 2 ^ e ≤ 2 ^ 64 := Nat.pow_le_pow_right (by omega) h
    omega
  rw [h4, Nat.add_mul_div_right _ _ h2, Nat.div_eq_of_lt (by omega)]
  omega
theorem mask_int (l r e : Nat) (hlr : l < r) (hr : r ≤ 64) (he : e = 64 - (r - l)) : IntKind.u64.wrap ((18446744073709551615 : Int) / 2 ^ e * 2 ^ l) = (((2 ^ (r - l) - 1) * 2 ^ l : Nat) : Int) := by
  have h1 : ((18446744073709551615 : Int) / 2 ^ e * 2 ^ l) = ((18446744073709551615 / 2 ^ e * 2 ^ l : Nat) : Int) := by simp
  rw [h1, ones_div e (by omega), show 64 - e = r - l by omega]
  refine wrap_nat _ ?_
  have h2 : (2 ^ (r - l) - 1) * 2 ^ l < 2 ^ (r - l) * 2 ^ l := by
    have := Nat.two_pow_pos l
    have := Nat.two_pow_pos (r - l)
    exact Nat.mul_lt_mul_of_pos_right (by omega) (by omega)
  rw [← Nat.pow_add, show r - l + l = r by omega] at h2
  have h3 : 2 ^ r ≤ 2 ^ 64 := Nat.pow_le_pow_right (by omega) hr
  omega
theorem mask_at (l r e s : Nat) (hlr : l < r) (hr : r ≤ 64) (he : e = 64 - (r - l)) (hs : s = l) : IntKind.u64.wrap ((18446744073709551615 : Int) / 2 ^ e * 2 ^ s) = (((2 ^ (r - l) - 1) * 2 ^ l : Nat) : Int) := by
  subst hs; exact mask_int _ r e hlr hr he
theorem within_any (w : World) (P : Value) (a b k : Nat) (ha : a ≤ 1048576) (hb : b ≤ 1048576) (hk : 64 * k < b) (hab : a < b) (h2 : a < 64 * k + 64) :
    Calls Tryd.prog 64 #[P, .int .i64 k, .int .i64 a, .int .i64 b] w fun r w' => r = .returned (.int .u64 (inw a b k)) ∧ w = w' := by
  have Hm := Lib.hid (inw_mask a b k (a - 64 * k) (min (b - 64 * k) 64) (by omega) (by omega) rfl rfl (by omega))
  by_cases h1 : 64 * k ≤ a <;> by_cases h3 : 64 * k + 64 < b
  all_goals
    go_enter Tryd.func64, Tryd.ntmps64
    go_wp2
    all_goals go_ret
    refine ⟨ret_int ?_, rfl⟩
    rw [Hm.out]
  · refine mask_at (a - 64 * k) (min (b - 64 * k) 64) _ _ ?_ ?_ ?_ ?_ <;> omega
  · refine mask_at (a - 64 * k) (min (b - 64 * k) 64) _ _ ?_ ?_ ?_ ?_ <;> omega
  · rw [show a - 64 * k = 0 by omega, show min (b - 64 * k) 64 - 0 = 64 by omega]; rfl
  · have q := mask_at 0 (b - 64 * k) (64 - (b - k * 64)) 0 (by omega) (by omega) (by omega) rfl
    rw [Int.pow_zero, Int.mul_one] at q
    rw [q, show a - 64 * k = 0 by omega, show min (b - 64 * k) 64 = b - 64 * k by omega]
theorem cut_any (w : World) (p g n : Nat) (f : Nat → Bool) (h : Tg w p g n f) (a b : Int) :
    Calls Tryd.prog 63 #[.pointer (some ⟨p, 0, none⟩), .int .i64 a, .int .i64 b] w fun r w' => r = .returned (.tuple #[.int .i64 (max a 0), .int .i64 (min b n)]) ∧ w = w' := by
  have hn := h.2.1
  by_cases h1 : 0 ≤ a <;> by_cases h2 : b ≤ n
  all_goals
    first | rw [Int.max_eq_left (by omega)] | rw [Int.max_eq_right (by omega)]
  all_goals
    first | rw [Int.min_eq_left (by omega)] | rw [Int.min_eq_right (by omega)]
    go_enter Tryd.func63, Tryd.ntmps63
    go_wp2_with (go_at_call 45; refine (len_any w p g n f h).mono ?_; rintro e w' ⟨rfl, rfl⟩)
    go_ret2
    exact ⟨rfl, rfl⟩
theorem count_nil (w : World) : Calls Tryd.prog 59 #[.pointer none] w fun r w' => r = .returned (.int .i64 0) ∧ w = w' := by
  go_enter Tryd.func59, Tryd.ntmps59
  go_wp2
  go_ret
  exact ⟨rfl, rfl⟩
theorem count_any (w : World) (p g n : Nat) (f : Nat → Bool) (h : Tg w p g n f) :
    Calls Tryd.prog 59 #[.pointer (some ⟨p, 0, none⟩)] w fun r w' => r = .returned (.int .i64 (cnt f n)) ∧ w = w' := by
  have hn := h.2.1
  obtain ⟨cp, hcp, c1⟩ := h.c1
  have hk := Lib.hid h.ck
  have h0 := h.2.2.1
  have H0 := Lib.hid h0
  clear h h0
  go_enter Tryd.func59, Tryd.ntmps59
  go_wp2
  go_loop [3, 13] (fun t i => ∃ k : Nat, k ≤ (n + 63) / 64 ∧ i = .int .i64 k ∧ t = .int .i64 (cnt f (64 * k))) (fun _ i => (n + 63) / 64 - (intOf i).toNat)
  case atStart => exact ⟨0, by omega, rfl, rfl⟩
  case round =>
    obtain ⟨k, hkn, rfl, rfl⟩ := hrel
    have hle := cnt_le f (64 * k)
    by_cases hlt : k < (n + 63) / 64
    · have ck := hk.out k hlt
      have hw := wrd_lt f k
      have hs := Lib.hid (cnt_word f k)
      have hle2 := cnt_le (wrd f k).testBit 64
      have P := Lib.hid (fun w => pop_any (wrd f k : Int) w (by omega) (by unfold u64max; omega))
      simp only [Int.toNat_natCast] at P
      generalize cnt (wrd f k).testBit 64 = c at *
      generalize wrd f k = W at *
      clear hw
      go_wp2_with (go_at_call 76; refine (P.out _).mono ?_; rintro e w' ⟨rfl, rfl⟩)
      go_round
      case rel => exact ⟨k + 1, by omega, by go_num, by rw [← hs.out]; go_num⟩
      case measure => simp [intOf]; omega
    · go_wp2
      go_ret
      refine ⟨ret_int ?_, rfl⟩
      rw [cnt_out f n (64 * k) H0.out (by omega)]
def hit (f : Nat → Bool) (n : Nat) (a b : Int) : Nat := cntB f (max a 0).toNat (min b n).toNat
theorem cnt_mono (g : Nat → Bool) (a b : Nat) (h : a ≤ b) : cnt g a ≤ cnt g b := by
  obtain ⟨d, rfl⟩ : ∃ d, b = a + d := ⟨b - a, by omega⟩
  rw [cnt_add]; omega
theorem btw_low (f : Nat → Bool) (a b m : Nat) (h : m ≤ a) : cnt (btw f a b) m = 0 := cnt_zero _ m fun i hi => by unfold btw; simp [show ¬ a ≤ i by omega]
theorem cnt_of_word (g : Nat → Bool) (k : Nat) (h : wrd g k ≠ 0) (m : Nat) (hm : 64 * k + 64 ≤ m) : 0 < cnt g m := by
  have h1 : ¬ ∀ j, j < 64 → g (64 * k + j) = false := fun e => h ((wrd_zero g k).2 e)
  have h2 : ∃ j, j < 64 ∧ g (64 * k + j) = true := by
    apply Classical.byContradiction
    intro hne
    refine h1 fun j hj => ?_
    cases e : g (64 * k + j) with
    | false => rfl
    | true => exact (hne ⟨j, hj, e⟩).elim
  obtain ⟨j, hj, e⟩ := h2
  exact cnt_pos g m (64 * k + j) (by omega) e
theorem cnt_word0 (g : Nat → Bool) (k : Nat) (h : wrd g k = 0) : cnt g (64 * (k + 1)) = cnt g (64 * k) := by
  have := cnt_word g k
  rw [h] at this
  rw [← this]
  have : cnt (Nat.testBit 0) 64 = 0 := cnt_zero _ 64 fun i _ => Nat.zero_testBit i
  rw [this]; rfl
theorem any_any (w : World) (p g n : Nat) (f : Nat → Bool) (h : Tg w p g n f) (a b : Int) :
    Calls Tryd.prog 46 #[.pointer (some ⟨p, 0, none⟩), .int .i64 a, .int .i64 b] w fun r w' => r = .returned (.bool (decide (0 < hit f n a b))) ∧ ∃ m, w' = w.drewN m := by
  have hn := h.2.1
  obtain ⟨cp, hcp, c1⟩ := h.c1
  have C := Lib.hid fun w h => cut_any w p g n f h a b
  unfold hit
  obtain ⟨A, hA⟩ := Int.eq_ofNat_of_zero_le (show 0 ≤ max a 0 by omega)
  obtain ⟨B, hB⟩ : ∃ B, min b n = B := ⟨_, rfl⟩
  have hBn : B ≤ n := by omega
  rw [hA, hB] at C ⊢
  clear hA hB
  simp only [Int.toNat_natCast]
  by_cases hAB : B ≤ A
  · have e : decide (0 < cntB f A B.toNat) = false := by rw [cntB_none _ _ _ (by omega)]; rfl
    rw [e]
    clear e
    go_enter Tryd.func46, Tryd.ntmps46
    go_wp2_with (go_at_call 63; refine (C.out _ h).mono ?_; rintro e w' ⟨rfl, rfl⟩)
    go_ret
    exact ⟨rfl, 0, rfl⟩
  · obtain ⟨B, rfl⟩ := Int.eq_ofNat_of_zero_le (show 0 ≤ B by omega)
    simp only [Int.toNat_natCast]
    have Hk := Lib.hid h.ck
    have H := Lib.hid h
    have hd : decide ((B : Int) ≤ A) = false := by simp; omega
    have hd2 : decide (B ≤ A) = false := by simp; omega
    clear h
    go_enter Tryd.func46, Tryd.ntmps46
    go_wp2_with (go_at_call 63; refine (C.out _ H.out).mono ?_; rintro e w' ⟨rfl, rfl⟩)
    clear C
    go_loopw [7] (fun i wr => ∃ k m : Nat, k ≤ (n + 63) / 64 ∧ A / 64 ≤ k ∧ i = .int .i64 k ∧ wr = w.drewN m ∧ cnt (btw f A B) (64 * k) = 0) (fun i _ => (n + 63) / 64 - (intOf i).toNat)
    case atStart => exact ⟨A / 64, 0, by omega, by omega, by simp, rfl, btw_low f A B _ (by omega)⟩
    case round =>
      obtain ⟨k, m, hk, hAk, rfl, rfl, hc⟩ := hrel
      have Hc := Lib.hid hc; clear hc
      by_cases hlt : 64 * k < B
      · have ck := Hk.out k (by omega)
        have hand := band (wrd f k) (inw A B k) (wrd_lt f k) (inw_lt A B k)
        have hV := wrd_and f A B k
        rw [hV] at hand
        have Ww := Lib.hid fun w P => within_any w P A B k (by omega) (by omega) hlt (by omega) (by omega)
        have hlt' : (k : Int) * 64 < B := by omega
        have hidx : k < (n + 63) / 64 := by omega
        have H0 := Lib.hid (cnt_word0 (btw f A B) k)
        have H1 := Lib.hid (cnt_of_word (btw f A B) k)
        clear hV
        obtain ⟨V, hVe⟩ : ∃ V, wrd (btw f A B) k = V := ⟨_, rfl⟩
        rw [hVe] at hand
        have HV := Lib.hid hVe
        clear hVe
        generalize inw A B k = M at *
        generalize wrd f k = W at *
        by_cases hz : V = 0
        · subst hz
          go_wp2
          go_quiet ((go_at_call 64; exact q_same_add (Ww.out _ _)))
          go_wp2
          go_roundw
          case rel => exact ⟨k + 1, _, by omega, by omega, by go_num, rfl, by rw [H0.out HV.out]; exact Hc.out⟩
          case measure => simp [intOf]; omega
        · have hb : ((V : Int) != 0) = true := by simp; omega
          go_wp2
          go_quiet ((go_at_call 64; exact q_same_add (Ww.out _ _)))
          go_wp2
          go_ret
          refine ⟨ret_bool ?_, _, by rw [World.drewN_drewN]⟩
          have q := H1.out (by rw [HV.out]; exact hz) (64 * k + 64) (by omega)
          have q2 : 0 < cntB f A B := by
            rcases Nat.lt_or_ge B (64 * k + 64) with h1 | h1
            · rw [cntB_up f A B _ (by omega)] at q; exact q
            · have := cnt_mono (btw f A B) (64 * k + 64) B h1
              unfold cntB; omega
          exact (decide_eq_true q2).symm
      · have hlt' : ¬ (k : Int) * 64 < B := by omega
        go_wp2
        go_ret
        have e : cntB f A B = 0 := by
          have := cntB_up f A B (64 * k) (by omega)
          rw [← this]; exact Hc.out
        exact ⟨ret_bool (decide_eq_false (by show ¬ 0 < cntB f A B; omega)).symm, _, rfl⟩
theorem clear_any (w : World) (p g n : Nat) (f : Nat → Bool) (h : Tg w p g n f) (a b : Int) :
    Calls Tryd.prog 53 #[.pointer (some ⟨p, 0, none⟩), .int .i64 a, .int .i64 b] w fun r w' => r = .returned (.int .i64 (hit f n a b)) ∧ Tg w' p g n (clr f (max a 0).toNat (min b n).toNat) ∧ Fr [g] w w' := by
  have hn := h.2.1
  have C := Lib.hid fun w h => cut_any w p g n f h a b
  unfold hit
  obtain ⟨A, hA⟩ := Int.eq_ofNat_of_zero_le (show 0 ≤ max a 0 by omega)
  obtain ⟨B, hB⟩ : ∃ B, min b n = B := ⟨_, rfl⟩
  have hBn : B ≤ n := by omega
  rw [hA, hB] at C ⊢
  clear hA hB
  simp only [Int.toNat_natCast]
  have hz0 : ∀ m, m ≤ A → clr f A m = f := fun m hm => funext fun i => by
    unfold clr
    by_cases h1 : A ≤ i
    · simp [show ¬ i < m by omega]
    · simp [h1]
  by_cases hAB : B ≤ A
  · have Hz := Lib.hid (hz0 B.toNat (by omega))
    have Hc := Lib.hid (cntB_none f A B.toNat (by omega))
    clear hz0
    have H := Lib.hid h
    go_enter Tryd.func53, Tryd.ntmps53
    go_wp2_with (go_at_call 63; refine (C.out _ h).mono ?_; rintro e w' ⟨rfl, rfl⟩)
    go_ret
    exact ⟨ret_int (by rw [Hc.out]; rfl), by rw [Hz.out]; exact H.out, Fr.refl _ _⟩
  · obtain ⟨B, rfl⟩ := Int.eq_ofNat_of_zero_le (show 0 ≤ B by omega)
    simp only [Int.toNat_natCast]
    have Hz := Lib.hid hz0
    have H := Lib.hid h
    have hd : decide ((B : Int) ≤ A) = false := by simp; omega
    have hd2 : decide (B ≤ A) = false := by simp; omega
    clear h hz0
    go_enter Tryd.func53, Tryd.ntmps53
    go_wp2_with (go_at_call 63; refine (C.out _ H.out).mono ?_; rintro e w' ⟨rfl, rfl⟩)
    clear C
    go_loopw [7, 8] (fun t i wr => ∃ k : Nat, k ≤ (n + 63) / 64 ∧ A / 64 ≤ k ∧ i = .int .i64 k ∧ t = .int .i64 (cnt (btw f A B) (64 * k)) ∧ Tg wr p g n (clr f A (min B (64 * k))) ∧ Fr [g] w wr) (fun _ i _ => (n + 63) / 64 - (intOf i).toNat)
    case atStart => exact ⟨A / 64, by omega, by omega, by simp, by rw [btw_low f A B _ (by omega)]; rfl, by rw [Hz.out _ (by omega)]; exact H.out, Fr.refl _ _⟩
    case round =>
      obtain ⟨k, hk, hAk, rfl, rfl, ht, hf⟩ := hrel
      have Ht := Lib.hid ht
      by_cases hlt : 64 * k < B
      · have hidx : k < (n + 63) / 64 := by omega
        obtain ⟨cp, hcp, c1⟩ := ht.c1
        have ck := ht.ck k hidx
        have fk := ht.fk k
        have ew : wrd (clr f A (min B (64 * k))) k = wrd f k := bitsN_congr 64 fun j hj => by
          unfold clr
          simp [show ¬ 64 * k + j < min B (64 * k) by omega]
        rw [ew] at ck
        have hand := band (wrd f k) (inw A B k) (wrd_lt f k) (inw_lt A B k)
        have hnot := bnot (wrd f k) (inw A B k) (wrd_lt f k) (inw_lt A B k)
        rw [wrd_and f A B k] at hand
        rw [wrd_andNot f A B k] at hnot
        have Hset := Lib.hid (ht.put (f' := clr f A (min B (64 * (k + 1)))) k (wrd (clr f A B) k) (bitsN_congr 64 fun j hj => by
            unfold clr
            by_cases h1 : 64 * k + j < B
            · simp [h1, show 64 * k + j < min B (64 * (k + 1)) by omega]
            · simp [h1, show ¬ 64 * k + j < min B (64 * (k + 1)) by omega])
          (fun i hi => bitsN_congr 64 fun j hj => by
            unfold clr
            by_cases h1 : 64 * i + j < min B (64 * k)
            · simp [h1, show 64 * i + j < min B (64 * (k + 1)) by omega]
            · simp [h1, show ¬ 64 * i + j < min B (64 * (k + 1)) by omega])
          (fun i hi => by unfold clr; rw [H.out.2.2.1 i hi]; rfl))
        have Ww := Lib.hid fun w P => within_any w P A B k (by omega) (by omega) hlt (by omega) (by omega)
        have hlt' : (k : Int) * 64 < B := by omega
        have hc := cnt_le (btw f A B) (64 * k)
        have hs := Lib.hid (cnt_word (btw f A B) k)
        have hle2 := cnt_le (wrd (btw f A B) k).testBit 64
        have P := Lib.hid (fun w => pop_any (wrd (btw f A B) k : Int) w (by omega) (by have := wrd_lt (btw f A B) k; unfold u64max; omega))
        simp only [Int.toNat_natCast] at P
        generalize cnt (wrd (btw f A B) k).testBit 64 = c at *
        generalize wrd (btw f A B) k = V at *
        generalize wrd (clr f A B) k = X at *
        generalize inw A B k = M at *
        generalize wrd f k = W at *
        clear ew ht
        go_wp2_with (first | (go_at_call 64; refine (Ww.out _ _).mono ?_; rintro e w' ⟨rfl, rfl⟩) | (go_at_call 76; refine (P.out _).mono ?_; rintro e w' ⟨rfl, rfl⟩))
        go_roundw
        case rel => exact ⟨k + 1, by omega, by omega, by go_num, by rw [← hs.out]; go_num, Hset.out, hf.set (.inl (by simp)) _⟩
        case measure => simp [intOf]; omega
      · have hlt' : ¬ (k : Int) * 64 < B := by omega
        go_wp2
        go_ret
        refine ⟨ret_int ?_, ?_, hf⟩
        · show ((cnt (btw f A B) (64 * k) : Nat) : Int) = _
          rw [cntB_up f A B (64 * k) (by omega)]
        · have := Ht.out
          rw [show min B (64 * k) = B by omega] at this
          exact this
end Go.Proofs.YtdbpmojblgmhdaaDoor
