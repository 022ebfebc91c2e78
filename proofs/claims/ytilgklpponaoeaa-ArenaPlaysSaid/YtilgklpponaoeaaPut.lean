/-
  What an arena's functions do that lay bytes or tell them. Condition: numbers in their types' ranges; at most a million bytes at once.
-/





import Derived.Test.YtilgklpponaoeaaArena
import Derived.BigRegion
set_option linter.unusedVariables false
namespace Go.Proofs.Ytilgklpponaoeaa
open Go.ChangeShapes Go.WideShapes Go.ChangeAt Go.RowKit
def putL (bs : List Nat) (a : Nat) (l : List Nat) : List Nat := bs.take a ++ l ++ bs.drop (a + l.length)
def putF (f : Nat → Bool) (a n : Nat) : Nat → Bool := clr f (a / 16) ((a + n - 1) / 16 + 1)
theorem putL_len (bs : List Nat) (a : Nat) (l : List Nat) (h : a + l.length ≤ bs.length) : (putL bs a l).length = bs.length := by unfold putL; simp; omega
theorem putL_byt {bs : List Nat} {a : Nat} {l : List Nat} (h : Byt bs) (hl : Byt l) : Byt (putL bs a l) := ((h.take _).append hl).append (h.drop _)
theorem putL_cells (cs : List Value) (bs l : List Nat) (a : Nat) (h : a + l.length ≤ bs.length) (hc : cs.take bs.length = bys bs) : (cs.take a ++ bys l ++ cs.drop (a + (bys l).length)).take bs.length = bys (putL bs a l) := by
  have e : cs = bys bs ++ cs.drop bs.length := by rw [← hc, List.take_append_drop]
  rw [bys_len]
  have h1 : cs.take a = bys (bs.take a) := by
    rw [e, List.take_append_of_le_length (by rw [bys_len]; omega), bys_take]
  have h2 : cs.drop (a + l.length) = bys (bs.drop (a + l.length)) ++ cs.drop bs.length := by
    conv => lhs; rw [e]
    rw [List.drop_append_of_le_length (by rw [bys_len]; omega), bys_drop]
  rw [h1, h2, ← List.append_assoc, ← bys_append, ← bys_append, List.take_append_of_le_length (by rw [bys_len]; simp; omega), List.take_of_length_le (by rw [bys_len]; simp; omega)]
  rfl
theorem putL_nil (bs : List Nat) (a : Nat) : putL bs a [] = bs := by unfold putL; simp
set_option maxHeartbeats 1000000 in
set_option maxRecDepth 100000 in
theorem aput_yes (w : World) (ap p g bg cap : Nat) (bs : List Nat) (f : Nat → Bool) (h : Ar w ap p g bg cap bs f) (a : Nat) (ha : a < 4294967296) (la : Addr) (n lc : Nat) (l : List Nat) (hl : l.length = n) (hb : Byt l)
    (hin : ∀ j v, (bys l)[j]? = some v → w.cell? (la.add j) = some v) (hn0 : 0 < n) (hfit : a + n ≤ bs.length) :
    Calls Try.prog 41 #[.pointer (some ⟨ap, 0, none⟩), .int .u32 a, .slice (some la) n lc] w fun r w' => r = .returned (.bool true) ∧ Ar w' ap p g bg cap (putL bs a l) (putF f a n) ∧ Fr [g, bg] w w' := by
  have C := Lib.hid (show Calls Try.prog 59 #[.pointer (some ⟨ap, 0, none⟩), .int .u32 a, .int .i64 n] w fun r w' => r = .returned (.bool true) ∧ w = w' by
    have := athere_any w ap p g bg cap bs f h a ha n (by omega) (by have := h.2.1; omega)
    rw [thB_nat, decide_eq_true hfit] at this
    exact this)
  obtain ⟨c0, c1⟩ := h.top
  have hne := h.ne
  have hlt := h.lt
  obtain ⟨a1, a2, a3, a4, a5, a6, a7, cs, a8, a9, a10⟩ := h
  have hr := run_copy_le (P := Try.prog) w 31 31 3 5 bg a (bs.length - a) n (cap - a) (by omega) la lc cs 5 (bys l) Try.underlying31 (by kernel_rfl) a8 (by rw [bys_len]; exact hl) hin (by rw [bys_len]; omega) (bys_one l)
  have A2 := setRow_heap w bg _ (cs.toList.take a ++ bys l ++ cs.toList.drop (a + (bys l).length)).toArray 5 (0, 0) a8
  have F2 := Fr.setRow w bg (cs.toList.take a ++ bys l ++ cs.toList.drop (a + (bys l).length)).toArray
  have hcells := putL_cells cs.toList bs l a (by omega) a10
  obtain ⟨D, hD⟩ : ∃ D, (cs.toList.take a ++ bys l ++ cs.toList.drop (a + (bys l).length)) = D := ⟨_, rfl⟩
  have hDl : bs.length ≤ D.length := by
    rw [← hD]; simp [bys_len]; omega
  rw [hD] at hr A2 F2 hcells
  obtain ⟨w2, hw2⟩ : ∃ W, w.setRow bg D.toArray = W := ⟨_, rfl⟩
  rw [hw2] at hr A2 F2
  have T2 := a7.fr F2 (by simp; omega) (by simp; omega)
  have A6 := a6.fr F2 (by simp; omega)
  have hA : (max ((a / 16 : Nat) : Int) 0).toNat = a / 16 := by omega
  have hB : (min (((a + n - 1) / 16 + 1 : Nat) : Int) ((bs.length / 16 : Nat) : Int)).toNat = (a + n - 1) / 16 + 1 := by omega
  have CC := clear_any w2 p g (bs.length / 16) f T2 ((a / 16 : Nat) : Int) (((a + n - 1) / 16 + 1 : Nat) : Int)
  rw [hA, hB] at CC
  rw [show (((a + n - 1) / 16 + 1 : Nat) : Int) = ((a : Int) + (n : Int) - 1) / 16 + 1 by omega, show ((a / 16 : Nat) : Int) = (a : Int) / 16 by omega] at CC
  have C2 := Lib.hid CC
  have HR := Lib.hid hr
  have HA2 := Lib.hid (show At w2 bg 5 D.toArray from A2)
  have HA6 := Lib.hid A6
  have HC := Lib.hid hcells
  have HF2 := Lib.hid F2
  have e0 := (F2.cell (a := ⟨ap, 0, none⟩) hlt.1 (by simp; omega)).trans c0
  have hL := putL_len bs a l (by omega)
  have HPB := Lib.hid (putL_byt (a := a) a5 hb)
  have HL := Lib.hid hL
  have hac : a < cap := by omega
  obtain ⟨N, hN⟩ : ∃ N, bs.length = N := ⟨_, rfl⟩
  rw [hN] at hfit a1 a2 a3 c1 C2 HR HC HL HA6 hDl
  clear hcells hr A2 A6 F2 T2 CC hA hB hD hw2 a5 a6 a7 a8 a9 a10 hin hb hl hL
  go_enter Try.func41, Try.ntmps41
  go_wp2_with fail
  refine (C.out).mono ?_
  rintro e w' ⟨rfl, rfl⟩
  go_wp2_with (refine wpList_copy_run rfl (.tmp 18) (.tmp 19) 31 31 rfl _ _ rfl rfl HR.out ?_)
  refine (C2.out).mono ?_
  rintro e w3 ⟨rfl, h3, hf3⟩
  have hne' := hne
  go_wp2_with fail
  go_ret
  obtain ⟨n1, n2, n3, n4, n5, n6⟩ := hne
  refine ⟨rfl, ⟨by rw [HL.out]; exact a1, by rw [HL.out]; exact a2, by rw [HL.out]; exact a3, a4, HPB.out, ?_, ?_, D.toArray, ?_, ?_, ?_⟩, (HF2.out.more (T := [g, bg]) (by simp)).trans hf3 (by simp)⟩
  · rw [HL.out]; exact HA6.out.fr hf3 (by simp; omega)
  · rw [HL.out]; exact h3
  · exact HA2.out.fr hf3 (by simp; omega)
  · rw [HL.out]; simpa using hDl
  · rw [HL.out]; exact HC.out
theorem aput_no (w : World) (ap p g bg cap : Nat) (bs : List Nat) (f : Nat → Bool) (h : Ar w ap p g bg cap bs f) (a : Nat) (ha : a < 4294967296) (la : Option Addr) (n lc : Nat) (hn : n ≤ 1000000) (hfit : ¬ a + n ≤ bs.length) :
    Calls Try.prog 41 #[.pointer (some ⟨ap, 0, none⟩), .int .u32 a, .slice la n lc] w fun r w' => r = .returned (.bool false) ∧ w = w' := by
  have C := Lib.hid (show Calls Try.prog 59 #[.pointer (some ⟨ap, 0, none⟩), .int .u32 a, .int .i64 n] w fun r w' => r = .returned (.bool false) ∧ w = w' by
    have := athere_any w ap p g bg cap bs f h a ha n (by omega) (by omega)
    rw [thB_nat, decide_eq_false hfit] at this
    exact this)
  clear h hfit
  go_enter Try.func41, Try.ntmps41
  go_wp2_with fail
  refine (C.out).mono ?_
  rintro e w' ⟨rfl, rfl⟩
  go_wp2_with fail
  go_ret
  exact ⟨rfl, rfl⟩
set_option maxRecDepth 100000 in
theorem aput_zero (w : World) (ap p g bg cap : Nat) (bs : List Nat) (f : Nat → Bool) (h : Ar w ap p g bg cap bs f) (a : Nat) (ha : a < 4294967296) (la : Option Addr) (lc : Nat) (hfit : a ≤ bs.length) :
    Calls Try.prog 41 #[.pointer (some ⟨ap, 0, none⟩), .int .u32 a, .slice la 0 lc] w fun r w' => r = .returned (.bool true) ∧ w = w' := by
  have C := Lib.hid (show Calls Try.prog 59 #[.pointer (some ⟨ap, 0, none⟩), .int .u32 a, .int .i64 0] w fun r w' => r = .returned (.bool true) ∧ w = w' by
    have := athere_any w ap p g bg cap bs f h a ha ((0 : Nat) : Int) (by omega) (by omega)
    rw [thB_nat, decide_eq_true (by omega)] at this
    exact this)
  obtain ⟨c0, c1⟩ := h.top
  have hcap := h.2.2.1
  have hr : ∀ d nd dc, (Builtin.copy_ #[31, 31] 3 #[.slice d nd dc, .slice la 0 lc]).run Try.prog w = .ok (goInt 0) w := fun d nd dc => run_copy_none w _ _ _ 5 d nd dc la lc Try.underlying31 (by kernel_rfl)
  have HR := Lib.hid hr
  obtain ⟨N, hN⟩ : ∃ N, bs.length = N := ⟨_, rfl⟩
  rw [hN] at c1 hcap hfit
  clear h hr hN
  by_cases hac : a < cap
  all_goals
    go_enter Try.func41, Try.ntmps41
    go_wp2_with fail
    refine (C.out).mono ?_
    rintro e w' ⟨rfl, rfl⟩
    go_wp2_with (refine wpList_copy_run rfl (.tmp 18) (.tmp 19) 31 31 rfl _ _ rfl rfl (HR.out _ _ _) ?_)
    go_ret
    exact ⟨rfl, rfl⟩
/-! ### all ways of laying bytes -/
def wrL (bs : List Nat) (a : Nat) (l : List Nat) : List Nat := if a + l.length ≤ bs.length then putL bs a l else bs
def wrF (bs : List Nat) (f : Nat → Bool) (a : Nat) (l : List Nat) : Nat → Bool := if a + l.length ≤ bs.length ∧ 0 < l.length then putF f a l.length else f
theorem wrL_len (bs : List Nat) (a : Nat) (l : List Nat) : (wrL bs a l).length = bs.length := by
  unfold wrL
  split
  · exact putL_len bs a l (by assumption)
  · rfl
theorem aput_any (w : World) (ap p g bg cap : Nat) (bs : List Nat) (f : Nat → Bool) (h : Ar w ap p g bg cap bs f) (a : Nat) (ha : a < 4294967296) (la : Option Addr) (n lc : Nat) (l : List Nat) (hl : l.length = n) (hn : n ≤ 1000000) (hb : Byt l) (hin : BIn w la l) :
    Calls Try.prog 41 #[.pointer (some ⟨ap, 0, none⟩), .int .u32 a, .slice la n lc] w fun r w' => r = .returned (.bool (decide (a + n ≤ bs.length))) ∧ Ar w' ap p g bg cap (wrL bs a l) (wrF bs f a l) ∧ Fr [g, bg] w w' := by
  unfold wrL wrF
  rw [hl]
  by_cases hfit : a + n ≤ bs.length
  · rw [if_pos hfit, decide_eq_true hfit]
    rcases Nat.eq_zero_or_pos n with h0 | h0
    · subst h0
      obtain rfl := List.eq_nil_of_length_eq_zero hl
      rw [if_neg (by simp), putL_nil]
      exact (aput_zero w ap p g bg cap bs f h a ha la lc (by omega)).mono fun e w' ⟨h1, h2⟩ => ⟨h1, h2 ▸ h, h2 ▸ Fr.refl _ _⟩
    · rw [if_pos ⟨hfit, h0⟩]
      rcases hin with h1 | ⟨b, off, rfl, hg, hc⟩
      · subst h1; simp at hl; omega
      · exact aput_yes w ap p g bg cap bs f h a ha _ n lc l hl hb (fun j v hv => by rw [Go.WideShapes.add_plain]; exact hc j v hv) h0 hfit
  · rw [if_neg hfit, if_neg (fun h => hfit h.1), decide_eq_false hfit]
    exact (aput_no w ap p g bg cap bs f h a ha la n lc hn hfit).mono fun e w' ⟨h1, h2⟩ => ⟨h1, h2 ▸ h, h2 ▸ Fr.refl _ _⟩
theorem aput_nil (w : World) (a n : Nat) (la : Option Addr) (lc : Nat) : Calls Try.prog 41 #[.pointer none, .int .u32 a, .slice la n lc] w fun r w' => r = .returned (.bool false) ∧ w = w' := by
  have C := Lib.hid (athere_nil w a n)
  go_enter Try.func41, Try.ntmps41
  go_wp2_with fail
  refine (C.out).mono ?_
  rintro e w' ⟨rfl, rfl⟩
  go_wp2_with fail
  go_ret
  exact ⟨rfl, rfl⟩
theorem awrite_any (w : World) (ap p g bg cap : Nat) (bs : List Nat) (f : Nat → Bool) (h : Ar w ap p g bg cap bs f) (a : Nat) (ha : a < 4294967296) (l : List Nat) (hn : l.length ≤ 1000000) (hb : Byt l) :
    Calls Try.prog 36 #[.pointer (some ⟨ap, 0, none⟩), .int .u32 a, strV l] w fun r w' => r = .returned (.bool (decide (a + l.length ≤ bs.length))) ∧ Ar w' ap p g bg cap (wrL bs a l) (wrF bs f a l) ∧ Fr [g, bg] w w' := by
  have C := Lib.hid fun W hW la (hf : BIn W la l) lc => aput_any W ap p g bg cap bs f (h.fr0 hW) a ha la l.length lc l rfl hn hb hf
  have HB := Lib.hid hb
  have HL := Lib.hid hn
  obtain ⟨s, hs⟩ : ∃ s, strV l = s := ⟨_, rfl⟩
  have HS := Lib.hid hs
  rw [hs]
  clear h hb hn hs
  go_enter Try.func36, Try.ntmps36
  go_wp2_with (refine wpList_bytes rfl Try.underlying9 ⟨5, Try.underlying31, Try.underlying5⟩ (.tmp 9) rfl l HB.out HL.out HS.out.symm ?_; intro w2 gl lc hgl hlc hlm hc hf hgw)
  have C2 := Lib.hid (C.out w2 hf _ (.inr ⟨gl, 0, rfl, hgw, fun j v hv => by rw [Nat.zero_add]; exact hc j v hv⟩) lc)
  have HF := Lib.hid hf
  clear hc hf C
  refine (C2.out).mono ?_
  rintro e w3 ⟨rfl, h3, hf3⟩
  have H3 := Lib.hid h3
  have HF3 := Lib.hid hf3
  clear h3 hf3 C2
  go_wp2_with fail
  go_ret
  exact ⟨rfl, H3.out, (HF.out.more (by simp)).trans HF3.out (by simp)⟩
theorem awrite_nil (w : World) (a : Nat) (l : List Nat) (hn : l.length ≤ 1000000) (hb : Byt l) : Calls Try.prog 36 #[.pointer none, .int .u32 a, strV l] w fun r w' => r = .returned (.bool false) ∧ Fr [] w w' := by
  have C := Lib.hid fun W la lc => aput_nil W a l.length la lc
  have HB := Lib.hid hb
  have HL := Lib.hid hn
  obtain ⟨s, hs⟩ : ∃ s, strV l = s := ⟨_, rfl⟩
  have HS := Lib.hid hs
  rw [hs]
  clear hb hn hs
  go_enter Try.func36, Try.ntmps36
  go_wp2_with (refine wpList_bytes rfl Try.underlying9 ⟨5, Try.underlying31, Try.underlying5⟩ (.tmp 9) rfl l HB.out HL.out HS.out.symm ?_; intro w2 gl lc hgl hlc hlm hc hf hgw)
  refine (C.out _ _ _).mono ?_
  rintro e w3 ⟨rfl, rfl⟩
  go_wp2_with fail
  go_ret
  exact ⟨rfl, hf⟩
/-! ### numbers laid -/
theorem oput_no (w : World) (s : Value) (k v : Int) (h : k ≠ 1 ∧ k ≠ 2 ∧ k ≠ 4) : Calls Try.prog 40 #[s, .int .i64 k, .int .u32 v] w fun r w' => r = .returned s ∧ w = w' := by
  have C := Lib.hid fun W => right_no W k h.1 h.2.1 h.2.2
  clear h
  go_enter Try.func40, Try.ntmps40
  go_wp2_with fail
  refine (C.out _).mono ?_
  rintro e w' ⟨rfl, rfl⟩
  go_wp2_with fail
  go_ret
  exact ⟨rfl, rfl⟩
def widB (k : Int) : Bool := decide (k = 1 ∨ k = 2 ∨ k = 4)
theorem astore_no (w : World) (x : Value) (a v k : Int) (h : k ≠ 1 ∧ k ≠ 2 ∧ k ≠ 4) : Calls Try.prog 12 #[x, .int .u32 a, .int .i64 k, .int .u32 v] w fun r w' => r = .returned (.bool false) ∧ w = w' := by
  have C := Lib.hid fun W => oput_no W (.string ⟨#[]⟩) k v h
  clear h
  go_enter Try.func12, Try.ntmps12
  go_wp2_with fail
  refine (C.out _).mono ?_
  rintro e w' ⟨rfl, rfl⟩
  go_wp2_with fail
  go_ret
  exact ⟨rfl, rfl⟩
theorem loop_ne (s : ByteArray) : ∀ (n i : Nat) (r : List UInt8), s.size - i = n → r ≠ [] → ByteArray.toList.loop s i r ≠ []
  | 0, i, r, hn, hr => by
    unfold ByteArray.toList.loop
    rw [if_neg (by omega)]
    simpa using hr
  | n + 1, i, r, hn, hr => by
    unfold ByteArray.toList.loop
    rw [if_pos (by omega)]
    exact loop_ne s n (i + 1) _ (by omega) (by simp)
theorem str_ne (s : ByteArray) (h : s.size ≠ 0) : s.toList.isEmpty = false := by
  have : s.toList ≠ [] := by
    unfold ByteArray.toList ByteArray.toList.loop
    rw [if_pos (by omega)]
    exact loop_ne s _ 1 _ rfl (by simp)
  simpa using this
set_option maxRecDepth 100000 in
theorem astore_any (w : World) (ap p g bg cap : Nat) (bs : List Nat) (f : Nat → Bool) (h : Ar w ap p g bg cap bs f) (a : Nat) (ha : a < 4294967296) (k v : Nat) (hk : k = 1 ∨ k = 2 ∨ k = 4) (hv : v < 4294967296) :
    Calls Try.prog 12 #[.pointer (some ⟨ap, 0, none⟩), .int .u32 a, .int .i64 k, .int .u32 v] w fun r w' => r = .returned (.bool (decide (a + k ≤ bs.length))) ∧ Ar w' ap p g bg cap (wrL bs a (le k v)) (wrF bs f a (le k v)) ∧ Fr [g, bg] w w' := by
  have C1 := Lib.hid fun W => (show Calls Try.prog 40 #[.string ⟨#[]⟩, .int .i64 k, .int .u32 v] W fun r w' => r = .returned (strV (le k v)) ∧ Fr [] W w' from oput_any W [] (fun _ h => by cases h) (by simp) k v hk hv)
  have C := Lib.hid fun W hW la (hf : BIn W la (le k v)) lc => aput_any W ap p g bg cap bs f (h.fr0 hW) a ha la k lc (le k v) (le_len k v) (by omega) (le_byt k v) hf
  have HB := Lib.hid (le_byt k v)
  have HL := Lib.hid (show (le k v).length ≤ 1000000 by rw [le_len]; omega)
  have HK := Lib.hid (le_len k v)
  have hne : (BS (le k v)).size ≠ 0 := by rw [BS_size, le_len]; omega
  obtain ⟨s, hs⟩ : ∃ s, strV (le k v) = s := ⟨_, rfl⟩
  have HS := Lib.hid hs
  rw [hs] at C1
  obtain ⟨S, hS⟩ : ∃ S, BS (le k v) = S := ⟨_, rfl⟩
  have hsS : s = .string S := by rw [← hs, ← hS]; rfl
  rw [hS] at hne
  subst hsS
  have hemp := str_ne S hne
  clear h hs hS hk hv
  go_enter Try.func12, Try.ntmps12
  go_wp2_with fail
  refine (C1.out _).mono ?_
  rintro e w1 ⟨rfl, hf1⟩
  have F1 := Lib.hid hf1
  clear hf1
  go_wp2_with (refine wpList_bytes rfl Try.underlying9 ⟨5, Try.underlying31, Try.underlying5⟩ (.tmp 17) rfl (le k v) HB.out HL.out HS.out.symm ?_; intro w2 gl lc hgl hlc hlm hc hf hgw)
  have F2 := Lib.hid (F1.out.trans0 hf)
  have C2 := C.out w2 F2.out _ (.inr ⟨gl, 0, rfl, hgw, fun j v hv => by rw [Nat.zero_add]; exact hc j v hv⟩) lc
  rw [HK.out]
  clear hc hf C
  refine C2.mono ?_
  rintro e w3 ⟨rfl, h3, hf3⟩
  have H3 := Lib.hid h3
  have HF3 := Lib.hid hf3
  clear h3 hf3 C2
  go_wp2_with fail
  go_ret
  exact ⟨rfl, H3.out, (F2.out.more (by simp)).trans HF3.out (by simp)⟩
end Go.Proofs.Ytilgklpponaoeaa
