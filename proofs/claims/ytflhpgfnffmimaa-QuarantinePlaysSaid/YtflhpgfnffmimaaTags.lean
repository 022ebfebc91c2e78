/-
  What the functions of tags compute: a map of n places at block p, its words at block g, holds the set f. Conditions: as stated.
-/


import Derived.Test.YtflhpgfnffmimaaWords
set_option linter.unusedVariables false
namespace Go.Proofs.Ytflhpgfnffmimaa
open Go.ChangeShapes Go.WideShapes Go.ChangeAt Go.RowKit
def Tg (w : World) (p g n : Nat) (f : Nat → Bool) : Prop :=
  p ≠ g ∧ n ≤ 1048576 ∧ (∀ i, n ≤ i → f i = false) ∧ ∃ (c : Nat) (cs : Array Value), (n + 63) / 64 ≤ c ∧ At w p 93 #[.int .i64 n, .slice (some ⟨g, 0, none⟩) ((n + 63) / 64) c] ∧ At w g 32 cs ∧
    ∀ k, k < (n + 63) / 64 → cs[k]? = some (.int .u64 (wrd f k))
section
variable {w w' v : World} {p g n : Nat} {f : Nat → Bool} {S : List Nat}
theorem Tg.fr (h : Tg w p g n f) (hf : Fr S w w') (hp : p ∉ S) (hg : g ∉ S) : Tg w' p g n f := by
  obtain ⟨h1, h2, h3, c, cs, h4, h5, h6, h7⟩ := h
  exact ⟨h1, h2, h3, c, cs, h4, h5.fr hf hp, h6.fr hf hg, h7⟩
theorem Tg.frh (h : Tg w p g n f) (hf : Fr S v w') (hv : v.heap = w.heap) (hp : p ∉ S) (hg : g ∉ S) : Tg w' p g n f := by
  obtain ⟨h1, h2, h3, c, cs, h4, h5, h6, h7⟩ := h
  exact ⟨h1, h2, h3, c, cs, h4, h5.frh hf hv hp, h6.frh hf hv hg, h7⟩
theorem Tg.heap (h : Tg w p g n f) (hv : w'.heap = w.heap) : Tg w' p g n f := by
  unfold Tg At at *; rw [hv]; exact h
theorem Tg.drewN (h : Tg w p g n f) (m : Nat) : Tg (w.drewN m) p g n f := h.heap rfl
theorem Tg.lt (h : Tg w p g n f) : p < w.heap.size ∧ g < w.heap.size := by
  obtain ⟨h1, h2, h3, c, cs, h4, h5, h6, h7⟩ := h
  exact ⟨h5.lt, h6.lt⟩
theorem Tg.c0 (h : Tg w p g n f) : w.cell? ⟨p, 0, none⟩ = some (.int .i64 n) := by
  obtain ⟨h1, h2, h3, c, cs, h4, h5, h6, h7⟩ := h
  exact h5.cell 0
theorem Tg.c1 (h : Tg w p g n f) : ∃ c, (n + 63) / 64 ≤ c ∧ w.cell? ⟨p, 1, none⟩ = some (.slice (some ⟨g, 0, none⟩) ((n + 63) / 64) c) := by
  obtain ⟨h1, h2, h3, c, cs, h4, h5, h6, h7⟩ := h
  exact ⟨c, h4, h5.cell 1⟩
theorem Tg.ck (h : Tg w p g n f) (k : Nat) (hk : k < (n + 63) / 64) : w.cell? ⟨g, k, none⟩ = some (.int .u64 (wrd f k)) := by
  obtain ⟨h1, h2, h3, c, cs, h4, h5, h6, h7⟩ := h
  exact (h6.cell k).trans (h7 k hk)
theorem Tg.fk (h : Tg w p g n f) (k : Nat) : w.frozen? ⟨g, k, none⟩ = false := by
  obtain ⟨h1, h2, h3, c, cs, h4, h5, h6, h7⟩ := h
  exact h6.froz k
end
def inR (at_ : Int) (n : Nat) : Bool := decide (0 ≤ at_) && decide (at_ < n)

theorem infoU64 : (Try.prog.info? 32).map (fun i => (i.zero, i.size, i.bytes)) = some (some (.int .u64 0), 1, 8) := by kernel_rfl
theorem made_rep (z : Value) (n : Nat) : madeCells #[z] n = Array.replicate n z := by
  unfold madeCells
  refine Array.ext_getElem? fun i => ?_
  by_cases h : i < n <;> simp [h, Nat.mod_one]
theorem new_any (n : Nat) (w : World) (hn : n ≤ 1048576) :
    Calls Try.prog 60 #[.int .i64 n] w fun r w' => ∃ p g, r = .returned (.pointer (some ⟨p, 0, none⟩)) ∧ Tg w' p g n (fun _ => false) ∧ w.heap.size ≤ p ∧ w.heap.size ≤ g ∧ Fr [] w w' := by
  have hmk := run_make_row' (P := Try.prog) 91 32 (.int .u64 0) 8 Try.underlying91 infoU64 rfl .i64 .i64 ((n + 63) / 64) (by omega) (by omega)
  have hsz : ((n : Int) + 64 - 1) / 64 = (((n + 63) / 64 : Nat) : Int) := by omega
  obtain ⟨k, hk⟩ : ∃ k, k = (n + 63) / 64 := ⟨_, rfl⟩
  rw [← hk] at hmk hsz
  have Hk := Lib.hid hk
  clear hk
  go_enter Try.func60, Try.ntmps60
  go_wp2
  go_ret
  refine ⟨w.heap.size + 1, w.heap.size, rfl, ⟨by omega, hn, fun _ _ => rfl, k, Array.replicate k (.int .u64 0), by rw [Hk.out]; exact Nat.le_refl _, ?_, ?_, ?_⟩, by omega, by omega, ((Fr.refl _ _).alloc _).alloc _⟩
  · rw [← Hk.out]
    have := At.new (w.alloc (.cells (madeCells #[.int .u64 0] k) 32)) 93 #[.int .i64 n, .slice (some ⟨w.heap.size, 0, none⟩) k k]
    rw [World.size_alloc] at this
    exact this
  · refine At.old ?_ _
    rw [← made_rep]
    exact At.new _ _ _
  · intro i hi
    have := wa_get n (fun _ => false) i hi
    rw [wa_new] at this
    rw [Hk.out]
    exact this
theorem new_bad (n : Int) (w : World) (hn : n < 0 ∨ 1048576 < n) :
    Calls Try.prog 60 #[.int .i64 n] w fun r w' => r = .returned (.pointer none) ∧ w = w' := by
  rcases hn with h | h
  · go_enter Try.func60, Try.ntmps60
    go_wp2
    go_ret
    exact ⟨rfl, rfl⟩
  · have h2 : 0 ≤ n := by omega
    go_enter Try.func60, Try.ntmps60
    go_wp2
    go_ret
    exact ⟨rfl, rfl⟩
theorem len_any (w : World) (p g n : Nat) (f : Nat → Bool) (h : Tg w p g n f) :
    Calls Try.prog 57 #[.pointer (some ⟨p, 0, none⟩)] w fun r w' => r = .returned (.int .i64 n) ∧ w = w' := by
  have c0 := h.c0
  have hn := h.2.1
  go_enter Try.func57, Try.ntmps57
  go_wp2
  go_ret
  exact ⟨rfl, rfl⟩
theorem there_any (w : World) (p g n : Nat) (f : Nat → Bool) (h : Tg w p g n f) (i : Int) :
    Calls Try.prog 55 #[.pointer (some ⟨p, 0, none⟩), .int .i64 i] w fun r w' => r = .returned (.bool (inR i n)) ∧ w = w' := by
  have c0 := h.c0
  have hn := h.2.1
  by_cases h0 : 0 ≤ i
  · by_cases h1 : i < n
    · have e : inR i n = true := by simp [inR, h0, h1]
      rw [e]
      go_enter Try.func55, Try.ntmps55
      go_wp2
      go_ret
      exact ⟨rfl, rfl⟩
    · have e : inR i n = false := by simp [inR, h0, h1]
      rw [e]
      go_enter Try.func55, Try.ntmps55
      go_wp2
      go_ret
      exact ⟨rfl, rfl⟩
  · have e : inR i n = false := by simp [inR, h0]
    rw [e]
    go_enter Try.func55, Try.ntmps55
    go_wp2
    go_ret
    exact ⟨rfl, rfl⟩
theorem there_nil (w : World) (i : Int) :
    Calls Try.prog 55 #[.pointer none, .int .i64 i] w fun r w' => r = .returned (.bool false) ∧ w = w' := by
  go_enter Try.func55, Try.ntmps55
  go_wp2
  go_ret
  exact ⟨rfl, rfl⟩
theorem len_nil (w : World) : Calls Try.prog 57 #[.pointer none] w fun r w' => r = .returned (.int .i64 0) ∧ w = w' := by
  go_enter Try.func57, Try.ntmps57
  go_wp2
  go_ret
  exact ⟨rfl, rfl⟩
theorem inR_nat (i n : Nat) (h : i < n) : inR i n = true := by simp [inR, h]
theorem get_int (W e : Nat) (hW : W < 18446744073709551616) : (bits .and .u64 ((W : Int) / 2 ^ e) 1 == 1) = ((W / 2 ^ e &&& 1) == 1) := by
  have h1 : ((W : Int) / 2 ^ e) = ((W / 2 ^ e : Nat) : Int) := by simp
  have h2 : W / 2 ^ e < 18446744073709551616 := Nat.lt_of_le_of_lt (Nat.div_le_self _ _) hW
  rw [h1, show (1 : Int) = ((1 : Nat) : Int) by rfl, band _ _ h2 (by omega)]
  have : ∀ a : Nat, (((a : Nat) : Int) == ((1 : Nat) : Int)) = (a == 1) := fun a => by
    rw [Bool.eq_iff_iff]; simp; omega
  exact this _
theorem get_nil (w : World) (i : Int) :
    Calls Try.prog 46 #[.pointer none, .int .i64 i] w fun r w' => r = .returned (.bool false) ∧ w = w' := by
  go_enter Try.func46, Try.ntmps46
  go_wp2_with (go_at_call 55; refine (there_nil _ _).mono ?_; rintro e w' ⟨rfl, rfl⟩)
  go_ret
  exact ⟨rfl, rfl⟩
theorem get_any (w : World) (p g n : Nat) (f : Nat → Bool) (h : Tg w p g n f) (i : Int) :
    Calls Try.prog 46 #[.pointer (some ⟨p, 0, none⟩), .int .i64 i] w fun r w' => r = .returned (.bool (inR i n && f i.toNat)) ∧ w = w' := by
  have C := Lib.hid (there_any w p g n f h i)
  by_cases hi : inR i n = true
  · obtain ⟨i, rfl⟩ := Int.eq_ofNat_of_zero_le (show 0 ≤ i by simp [inR] at hi; omega)
    have hin : i < n := by simp [inR] at hi; omega
    rw [hi] at C
    have hn := h.2.1
    obtain ⟨cp, hcp, c1⟩ := h.c1
    have ck := h.ck (i / 64) (by omega)
    have hg := wrd_get f i
    have hl := wrd_lt f (i / 64)
    have Hg := Lib.hid (show (bits .and .u64 ((wrd f (i / 64) : Int) / 2 ^ (i % 64)) 1 == 1) = (inR i n && f i) by rw [get_int _ _ hl, hg, hi, Bool.true_and])
    have hl' : Hid (wrd f (i / 64) < 18446744073709551616) := Lib.hid hl
    clear hg hi hl
    generalize wrd f (i / 64) = W at *
    go_enter Try.func46, Try.ntmps46
    go_wp2_with (go_at_call 55; refine (C.out).mono ?_; rintro e w' ⟨rfl, rfl⟩)
    go_ret
    refine ⟨ret_bool ?_, rfl⟩
    rw [Int.toNat_natCast]
    exact Hg.out
  · simp only [Bool.not_eq_true] at hi
    rw [hi, Bool.false_and]
    rw [hi] at C
    go_enter Try.func46, Try.ntmps46
    go_wp2_with (go_at_call 55; refine (C.out).mono ?_; rintro e w' ⟨rfl, rfl⟩)
    go_ret
    exact ⟨rfl, rfl⟩
theorem shl_one (e : Nat) (h : e < 64) : IntKind.u64.wrap ((2 : Int) ^ e) = ((2 ^ e : Nat) : Int) := by
  have : 2 ^ e < 2 ^ 64 := Nat.pow_lt_pow_right (by omega) h
  rw [show (2 : Int) ^ e = ((2 ^ e : Nat) : Int) by simp, wrap_nat _ (by omega)]
theorem bor (a b : Nat) (ha : a < 18446744073709551616) (hb : b < 18446744073709551616) : bits .or .u64 (a : Int) (b : Int) = ((a ||| b : Nat) : Int) := u64_or_nat a b ha hb
theorem bnot (a b : Nat) (ha : a < 18446744073709551616) (hb : b < 18446744073709551616) : bits .andNot .u64 (a : Int) (b : Int) = ((a &&& (18446744073709551615 - b) : Nat) : Int) := u64_andNot_nat a b ha hb
theorem Tg.put {w : World} {p g n : Nat} {f f' : Nat → Bool} (h : Tg w p g n f) (k v : Nat) (hv : v = wrd f' k) (ho : ∀ j, j ≠ k → wrd f' j = wrd f j) (h0 : ∀ i, n ≤ i → f' i = false) :
    Tg (w.setCell ⟨g, k, none⟩ (.int .u64 v)) p g n f' := by
  obtain ⟨h1, h2, h3, c, cs, h4, h5, h6, h7⟩ := h
  refine ⟨h1, h2, h0, c, cs.setIfInBounds k (.int .u64 v), h4, h5.far (show p ≠ g from h1) _, h6.set k _, fun j hj => ?_⟩
  rw [Array.getElem?_setIfInBounds]
  by_cases e : k = j
  · subst e
    have hs : k < cs.size := by
      rcases Nat.lt_or_ge k cs.size with hl | hl
      · exact hl
      · have q := h7 k hj
        rw [Array.getElem?_eq_none hl] at q; cases q
    rw [if_pos rfl, if_pos hs, hv]
  · rw [if_neg e, h7 j hj, ho j (fun x => e x.symm)]
theorem put_nil (w : World) (i : Int) (b : Bool) :
    Calls Try.prog 59 #[.pointer none, .int .i64 i, .bool b] w fun r w' => r = .returned (.bool false) ∧ w = w' := by
  go_enter Try.func59, Try.ntmps59
  go_wp2_with (go_at_call 55; refine (there_nil _ _).mono ?_; rintro e w' ⟨rfl, rfl⟩)
  go_ret
  exact ⟨rfl, rfl⟩
theorem put_no (w : World) (p g n : Nat) (f : Nat → Bool) (h : Tg w p g n f) (i : Int) (b : Bool) (hi : inR i n = false) :
    Calls Try.prog 59 #[.pointer (some ⟨p, 0, none⟩), .int .i64 i, .bool b] w fun r w' => r = .returned (.bool false) ∧ w = w' := by
  have C := Lib.hid (there_any w p g n f h i)
  rw [hi] at C
  clear hi
  go_enter Try.func59, Try.ntmps59
  go_wp2_with (go_at_call 55; refine (C.out).mono ?_; rintro e w' ⟨rfl, rfl⟩)
  go_ret
  exact ⟨rfl, rfl⟩
theorem upd_out {n : Nat} {f : Nat → Bool} (h : ∀ i, n ≤ i → f i = false) (i : Nat) (b : Bool) (hi : i < n) : ∀ j, n ≤ j → upd f i b j = false := fun j hj => by
  unfold upd; rw [if_neg (by omega)]; exact h j hj
theorem put_yes (w : World) (p g n : Nat) (f : Nat → Bool) (h : Tg w p g n f) (i : Nat) (b : Bool) (hi : i < n) :
    Calls Try.prog 59 #[.pointer (some ⟨p, 0, none⟩), .int .i64 i, .bool b] w fun r w' => r = .returned (.bool true) ∧ Tg w' p g n (upd f i b) ∧ Fr [g] w w' := by
  have C := Lib.hid (there_any w p g n f h i)
  rw [inR_nat i n hi] at C
  have hn := h.2.1
  obtain ⟨cp, hcp, c1⟩ := h.c1
  have ck := h.ck (i / 64) (by omega)
  have fk := h.fk (i / 64)
  have hl := wrd_lt f (i / 64)
  have hsh := shl_one (i % 64) (by omega)
  have hp : 2 ^ (i % 64) < 18446744073709551616 := show 2 ^ (i % 64) < 2 ^ 64 from Nat.pow_lt_pow_right (by omega) (by omega)
  cases b
  · have hor := bnot _ _ hl hp
    have hw := Lib.hid (h.put (f' := upd f i false) (i / 64) _ (wrd_clr f i) (fun j hj => wrd_other f i false j hj) (upd_out h.2.2.1 i false hi))
    rw [← hsh] at hor
    generalize wrd f (i / 64) &&& (18446744073709551615 - 2 ^ (i % 64)) = V at *
    generalize wrd f (i / 64) = W at *
    clear hl hp hsh
    go_enter Try.func59, Try.ntmps59
    go_wp2_with (go_at_call 55; refine (C.out).mono ?_; rintro e w' ⟨rfl, rfl⟩)
    go_ret
    exact ⟨rfl, hw.out, (Fr.refl _ _).set (.inl (by simp)) _⟩
  · have hor := bor _ _ hl hp
    have hw := Lib.hid (h.put (f' := upd f i true) (i / 64) _ (wrd_set f i) (fun j hj => wrd_other f i true j hj) (upd_out h.2.2.1 i true hi))
    rw [← hsh] at hor
    generalize wrd f (i / 64) ||| 2 ^ (i % 64) = V at *
    generalize wrd f (i / 64) = W at *
    clear hl hp hsh
    go_enter Try.func59, Try.ntmps59
    go_wp2_with (go_at_call 55; refine (C.out).mono ?_; rintro e w' ⟨rfl, rfl⟩)
    go_ret
    exact ⟨rfl, hw.out, (Fr.refl _ _).set (.inl (by simp)) _⟩
def hit (f : Nat → Bool) (n : Nat) (a b : Int) : Nat := cntB f (max a 0).toNat (min b n).toNat
theorem cnt_mono (g : Nat → Bool) (a b : Nat) (h : a ≤ b) : cnt g a ≤ cnt g b := by
  obtain ⟨d, rfl⟩ : ∃ d, b = a + d := ⟨b - a, by omega⟩
  rw [cnt_add]; omega
theorem btw_low (f : Nat → Bool) (a b m : Nat) (h : m ≤ a) : cnt (btw f a b) m = 0 := cnt_zero _ m fun i hi => by unfold btw; simp [show ¬ a ≤ i by omega]
theorem cnt_of_word (g : Nat → Bool) (k : Nat) (h : wrd g k ≠ 0) (m : Nat) (hm : 64 * k + 64 ≤ m) : 0 < cnt g m := by
  have h1 : ¬ ∀ j, j < 64 → g (64 * k + j) = false := fun e => h ((wrd_zero g k).2 e)
  have h2 : ∃ j, j < 64 ∧ g (64 * k + j) = true := by
    apply Classical.byContradiction
    intro hne
    refine h1 fun j hj => ?_
    cases e : g (64 * k + j) with
    | false => rfl
    | true => exact (hne ⟨j, hj, e⟩).elim
  obtain ⟨j, hj, e⟩ := h2
  exact cnt_pos g m (64 * k + j) (by omega) e
theorem cnt_word0 (g : Nat → Bool) (k : Nat) (h : wrd g k = 0) : cnt g (64 * (k + 1)) = cnt g (64 * k) := by
  have := cnt_word g k
  rw [h] at this
  rw [← this]
  have : cnt (Nat.testBit 0) 64 = 0 := cnt_zero _ 64 fun i _ => Nat.zero_testBit i
  rw [this]; rfl
end Go.Proofs.Ytflhpgfnffmimaa
