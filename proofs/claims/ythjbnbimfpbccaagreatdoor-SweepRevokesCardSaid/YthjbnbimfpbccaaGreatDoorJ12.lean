/-
  Plain facts: what lies where behind a laying; a capability's bytes read back. No condition beside those stated.
-/
import Derived.Test.YthjbnbimfpbccaaGreatDoorJ11





set_option linter.unusedVariables false
namespace Go.Proofs.YthjbnbimfpbccaaGreatDoor
open Go.ChangeShapes Go.WideShapes Go.ChangeAt Go.RowKit
def sub (bs : List Nat) (a n : Nat) : List Nat := (bs.drop a).take n
theorem putL_get (bs : List Nat) (a : Nat) (l : List Nat) (h : a + l.length ≤ bs.length) (i : Nat) : (putL bs a l)[i]? = if i < a then bs[i]? else if i < a + l.length then l[i - a]? else bs[i]? := by
  unfold putL
  have ht : (bs.take a).length = a := by rw [List.length_take]; omega
  by_cases h1 : i < a
  · rw [if_pos h1, List.append_assoc, List.getElem?_append_left (by omega), List.getElem?_take_of_lt h1]
  · rw [if_neg h1]
    by_cases h2 : i < a + l.length
    · rw [if_pos h2, List.getElem?_append_left (by rw [List.length_append]; omega), List.getElem?_append_right (by omega), ht]
    · rw [if_neg h2, List.getElem?_append_right (by rw [List.length_append]; omega), List.length_append, ht, List.getElem?_drop]
      congr 1; omega
theorem sub_get (bs : List Nat) (a n i : Nat) : (sub bs a n)[i]? = if i < n then bs[a + i]? else none := by
  unfold sub
  rw [List.getElem?_take, List.getElem?_drop]
theorem sub_pre (bs : List Nat) (a : Nat) (l : List Nat) (h : a + l.length ≤ bs.length) (k : Nat) (hk : k ≤ l.length) : sub (putL bs a l) a k = l.take k := by
  apply List.ext_getElem?
  intro i
  rw [sub_get, List.getElem?_take]
  by_cases hi : i < k
  · rw [if_pos hi, if_pos hi, putL_get bs a l h, if_neg (by omega), if_pos (by omega)]
    congr 1; omega
  · rw [if_neg hi, if_neg hi]
theorem sub_put (bs : List Nat) (a : Nat) (l : List Nat) (h : a + l.length ≤ bs.length) : sub (putL bs a l) a l.length = l := by
  rw [sub_pre bs a l h _ (Nat.le_refl _), List.take_length]
theorem sub_far (bs : List Nat) (a : Nat) (l : List Nat) (h : a + l.length ≤ bs.length) (b n : Nat) (hd : b + n ≤ a ∨ a + l.length ≤ b) : sub (putL bs a l) b n = sub bs b n := by
  apply List.ext_getElem?
  intro i
  rw [sub_get, sub_get]
  by_cases hi : i < n
  · rw [if_pos hi, if_pos hi, putL_get bs a l h]
    by_cases h1 : b + i < a
    · rw [if_pos h1]
    · rw [if_neg h1, if_neg (by omega)]
  · rw [if_neg hi, if_neg hi]
theorem wrL_sub_far (bs : List Nat) (a : Nat) (l : List Nat) (b n : Nat) (hd : b + n ≤ a ∨ a + l.length ≤ b) : sub (wrL bs a l) b n = sub bs b n := by
  unfold wrL
  split
  · exact sub_far bs a l (by assumption) b n hd
  · rfl
theorem wrL_sub (bs : List Nat) (a : Nat) (l : List Nat) (h : a + l.length ≤ bs.length) (n : Nat) (hn : n = l.length) : sub (wrL bs a l) a n = l := by
  unfold wrL
  rw [if_pos h, hn, sub_put bs a l h]
theorem ofB0_bytes (c : Cp) (hc : c.Ok) : ofB0 (bytesC c) = { c with rs := c.rs % 16777216, v := false } := by
  have e0 : fld (bytesC c) 0 4 = c.cur % 256 ^ 4 := unle_le 4 c.cur
  have e1 : fld (bytesC c) 4 1 = c.e % 256 ^ 1 := unle_le 1 c.e
  have e2 : fld (bytesC c) 5 2 = c.b % 256 ^ 2 := unle_le 2 c.b
  have e3 : fld (bytesC c) 7 2 = c.t % 256 ^ 2 := unle_le 2 c.t
  have e4 : fld (bytesC c) 9 2 = c.pm % 256 ^ 2 := unle_le 2 c.pm
  have e5 : fld (bytesC c) 11 2 = c.ty % 256 ^ 2 := unle_le 2 c.ty
  have e6 : fld (bytesC c) 13 2 = c.rs % 65536 % 256 ^ 2 := unle_le 2 (c.rs % 65536)
  have e7 : fld (bytesC c) 15 1 = c.rs / 65536 % 256 % 256 ^ 1 := unle_le 1 (c.rs / 65536 % 256)
  have h0 := hc.cur; have h1 := hc.e; have h2 := hc.b; have h3 := hc.t; have h4 := hc.pm; have h5 := hc.ty; have h6 := hc.rs
  unfold ofB0
  rw [e0, e1, e2, e3, e4, e5, e6, e7]
  congr 1 <;> omega
theorem ofB_bytes (c : Cp) (hc : c.Ok) (v : Bool) (hr : c.rs < 16777216) : ofB (bytesC c) v = { c with v := v && soundB c } := by
  unfold ofB
  rw [ofB0_bytes c hc]
  have e : c.rs % 16777216 = c.rs := by omega
  rw [e]
  rfl
theorem clr_get (f : Nat → Bool) (a b i : Nat) : clr f a b i = (f i && !(decide (a ≤ i) && decide (i < b))) := rfl
theorem putF_get (f : Nat → Bool) (a n i : Nat) : putF f a n i = (f i && !(decide (a / 16 ≤ i) && decide (i ≤ (a + n - 1) / 16))) := by
  unfold putF
  rw [clr_get]
  congr 2
  by_cases h : i ≤ (a + n - 1) / 16
  · rw [decide_eq_true h, decide_eq_true (show i < (a + n - 1) / 16 + 1 by omega)]
  · rw [decide_eq_false h, decide_eq_false (show ¬ i < (a + n - 1) / 16 + 1 by omega)]
end Go.Proofs.YthjbnbimfpbccaaGreatDoor
/-
  An arena's functions, each whatever comes: what is told, and what is kept of lengths. Condition: numbers in their types' ranges.
-/





set_option linter.unusedVariables false
namespace Go.Proofs.YthjbnbimfpbccaaGreatDoor
open Go.ChangeShapes Go.WideShapes Go.ChangeAt Go.RowKit
def okE (N a : Nat) (k : Int) : Bool := widB k && decide (a + k.toNat ≤ N)
theorem okE_yes (N a k : Nat) (h : k = 1 ∨ k = 2 ∨ k = 4) : okE N a k = decide (a + k ≤ N) := by
  unfold okE widB
  rw [decide_eq_true (by omega), Bool.true_and, Int.toNat_natCast]
theorem okE_no (N a : Nat) (k : Int) (h : k ≠ 1 ∧ k ≠ 2 ∧ k ≠ 4) : okE N a k = false := by
  unfold okE widB
  rw [decide_eq_false (by omega), Bool.false_and]
theorem wid_cases (k : Int) : (∃ n : Nat, k = n ∧ (n = 1 ∨ n = 2 ∨ n = 4)) ∨ (k ≠ 1 ∧ k ≠ 2 ∧ k ≠ 4) := by
  by_cases h1 : k = 1
  · exact .inl ⟨1, h1, by omega⟩
  · by_cases h2 : k = 2
    · exact .inl ⟨2, h2, by omega⟩
    · by_cases h4 : k = 4
      · exact .inl ⟨4, h4, by omega⟩
      · exact .inr ⟨h1, h2, h4⟩
/-- The number loaded. -/
def ldN (bs : List Nat) (a : Nat) (k : Int) : Nat := if okE bs.length a k = true then unle (sub bs a k.toNat) else 0
section
variable (w : World) (ap p g bg cap : Nat) (bs : List Nat) (f : Nat → Bool) (h : Ar w ap p g bg cap bs f) (a : Nat) (ha : a < 4294967296)
include h ha
/-- The bytes and the tags behind a number's storing. -/
def stL (bs : List Nat) (a : Nat) (k : Int) (v : Nat) : List Nat := if widB k = true then wrL bs a (le k.toNat v) else bs
def stT (bs : List Nat) (f : Nat → Bool) (a : Nat) (k : Int) (v : Nat) : Nat → Bool := if widB k = true then wrF bs f a (le k.toNat v) else f
theorem astore_b (k : Int) (v : Nat) (hv : v < 4294967296) :
    Calls Tryz.prog 41 #[.pointer (some ⟨ap, 0, none⟩), .int .u32 a, .int .i64 k, .int .u32 v] w fun r w' => r = .returned (.bool (okE bs.length a k)) ∧ Ar w' ap p g bg cap (stL bs a k v) (stT bs f a k v) ∧ Fr [g, bg] w w' := by
  unfold stL stT
  rcases wid_cases k with ⟨n, rfl, hn⟩ | hk
  · have hw : widB (n : Int) = true := by unfold widB; simp; omega
    rw [okE_yes _ _ _ hn, if_pos hw, if_pos hw, Int.toNat_natCast]
    exact astore_any w ap p g bg cap bs f h a ha n v hn hv
  · have hw : ¬ widB k = true := by unfold widB; simp; omega
    rw [okE_no _ _ _ hk, if_neg hw, if_neg hw]
    exact (astore_no w _ a v k hk).mono fun e w' ⟨h1, h2⟩ => ⟨h1, h2 ▸ h, h2 ▸ Fr.refl _ _⟩
def ldC (bs : List Nat) (f : Nat → Bool) (a : Nat) : Cp := if whB bs.length a = true then ofB (sub bs a 16) (f (a / 16)) else noC
theorem aloadc_b : Calls Tryz.prog 40 #[.pointer (some ⟨ap, 0, none⟩), .int .u32 a] w fun r w' => r = .returned (.tuple #[.agg (ldC bs f a).cells, .bool (whB bs.length a)]) ∧ Fr [] w w' := by
  unfold ldC
  by_cases hw : whB bs.length a = true
  · rw [if_pos hw, hw]
    unfold whB at hw
    simp only [Bool.and_eq_true, decide_eq_true_eq] at hw
    exact aloadc_yes w ap p g bg cap bs f h a hw.1 hw.2
  · rw [if_neg hw]
    rw [Bool.not_eq_true] at hw
    rw [hw]
    exact aloadc_no w _ a (fun W hW => awhole_no w ap p g bg cap bs f h a ha hw W hW)
def scL (bs : List Nat) (a : Nat) (c : Cp) : List Nat := if whB bs.length a = true then wrL bs a (bytesC c) else bs
def scF (bs : List Nat) (f : Nat → Bool) (a : Nat) (c : Cp) : Nat → Bool := if whB bs.length a = true then stF bs f a c else f
theorem astorec_b (c : Cp) (hc : c.Ok) : Calls Tryz.prog 18 #[.pointer (some ⟨ap, 0, none⟩), .int .u32 a, .agg c.cells] w fun r w' => r = .returned (.bool (whB bs.length a)) ∧ Ar w' ap p g bg cap (scL bs a c) (scF bs f a c) ∧ Fr [g, bg] w w' := by
  unfold scL scF
  by_cases hw : whB bs.length a = true
  · rw [if_pos hw, if_pos hw, hw]
    unfold whB at hw
    simp only [Bool.and_eq_true, decide_eq_true_eq] at hw
    exact astorec_yes w ap p g bg cap bs f h a hw.1 hw.2 c hc
  · rw [if_neg hw, if_neg hw]
    rw [Bool.not_eq_true] at hw
    rw [hw]
    exact (astorec_no w _ a c (fun W hW => awhole_no w ap p g bg cap bs f h a ha hw W hW)).mono fun e w' ⟨h1, h2⟩ => ⟨h1, h.fr0 h2, h2.more (by simp)⟩
end
theorem stL_len (bs : List Nat) (a : Nat) (k : Int) (v : Nat) : (stL bs a k v).length = bs.length := by unfold stL; split <;> simp [wrL_len]
theorem scL_len (bs : List Nat) (a : Nat) (c : Cp) : (scL bs a c).length = bs.length := by unfold scL; split <;> simp [wrL_len]
theorem scF_at (bs : List Nat) (f : Nat → Bool) (a : Nat) (c : Cp) (h : whB bs.length a = true) : scF bs f a c (a / 16) = (c.v && soundB c) := by
  unfold scF stF upd
  rw [if_pos h, if_pos rfl]
end Go.Proofs.YthjbnbimfpbccaaGreatDoor
/-
  Plain: the bounds of what is made of a region are the region's, wherever the cursor stands within. No program here.
-/

set_option linter.unusedVariables false
namespace Go.Proofs.YthjbnbimfpbccaaGreatDoor
open Go.ChangeShapes Go.WideShapes Go.ChangeAt Go.RowKit
/-- The turns of two mantissas that lie a half of the ring apart at most. -/
theorem turn_same (A M : Nat) (h1 : A ≤ M) (h2 : M ≤ A + 2048) : ((M / 4096 : Nat) : Int) - trn (M % 4096) (edgeN (A % 4096)) = ((A / 4096 : Nat) : Int) - trn (A % 4096) (edgeN (A % 4096)) := by
  have key : ∀ x g : Nat, trn x g = if x < g then 1 else 0 := fun x g => rfl
  rw [key, key]
  unfold edgeN
  by_cases hb : A % 4096 < 1024
  · have e : (A % 4096 + 3072) % 4096 = A % 4096 + 3072 := by omega
    rw [e]
    by_cases hq : M / 4096 = A / 4096
    · rw [if_pos (by omega), if_pos (by omega), hq]
    · omega
  · have e : (A % 4096 + 3072) % 4096 = A % 4096 - 1024 := by omega
    rw [e]
    by_cases hq : M / 4096 = A / 4096
    · rw [if_neg (by omega), if_neg (by omega), hq]
    · have h3 : M / 4096 = A / 4096 + 1 := by omega
      rw [if_pos (by omega), if_neg (by omega), h3]
      omega
/-- What is told of a mantissa, the turn being that of the bottom. -/
theorem of_same (e A c X : Nat) (hc1 : A ≤ c / 2 ^ e) (hc2 : c / 2 ^ e ≤ A + 2048) (h1 : A ≤ X) (h2 : X ≤ A + 2048) :
    ofI (hiI e (A % 4096) c) e (A % 4096) (X % 4096) = ((X * 2 ^ e : Nat) : Int) := by
  have k1 := turn_same A (c / 2 ^ e) hc1 hc2
  have k2 := turn_same A X h1 h2
  unfold ofI hiI
  rw [k1, ← k2]
  have : ((X / 4096 : Nat) : Int) - trn (X % 4096) (edgeN (A % 4096)) + trn (X % 4096) (edgeN (A % 4096)) = ((X / 4096 : Nat) : Int) := by omega
  rw [this, Int.natCast_mul]
  have e2 : ((2 ^ e : Nat) : Int) = (2 : Int) ^ e := by simp
  rw [e2]
  have e3 : ((X / 4096 : Nat) : Int) * 4096 + ((X % 4096 : Nat) : Int) = (X : Int) := by omega
  rw [e3]
theorem expo_goes (b t : Nat) (h : b ≤ t) (h2 : t ≤ 4294967296) : goes (b : Int) (t : Int) (expo (b : Int) (t : Int)) = true := by
  have key : ∀ n e, n + e = 21 → goes (b : Int) (t : Int) (expoF (b : Int) (t : Int) n e) = true := fun n => by
    induction n with
    | zero =>
      intro e he
      obtain rfl : e = 21 := by omega
      exact goes_last _ _ (by omega) (by omega) (by omega)
    | succ n ih =>
      intro e he
      by_cases hg : goes (b : Int) (t : Int) e = true
      · rw [expoF_yes _ _ _ _ hg (by omega)]; exact hg
      · rw [Bool.not_eq_true] at hg
        rw [expoF_no _ _ _ _ hg (by omega)]
        exact ih (e + 1) (by omega)
  exact key 21 0 rfl
/-- What is exact has both ends at multiples, and not too far apart. -/
theorem exact_parts (b t : Nat) (h : b ≤ t) (h2 : t ≤ 4294967296) (hx : exB b t = true) :
    ∃ A T : Nat, b = A * 2 ^ expo b t ∧ t = T * 2 ^ expo b t ∧ A ≤ T ∧ T ≤ A + 2048 ∧ m1 b t = A % 4096 ∧ m2 b t = T % 4096 ∧ b / 2 ^ expo b t = A ∧ t / 2 ^ expo b t = T := by
  have hg := expo_goes b t h h2
  unfold exB at hx
  simp only [Bool.and_eq_true, decide_eq_true_eq] at hx
  obtain ⟨x1, x2⟩ := hx
  rw [goes_iff, decide_eq_true_eq, rup_nat, rdn_nat] at hg
  have y1 := (rdn_eq b (expo b t)).2 x1
  have y2 := (up_eq t (expo b t)).2 x2
  unfold m1 m2
  generalize expo (b : Int) (t : Int) = e at *
  have hp : 0 < 2 ^ e := Nat.two_pow_pos e
  rw [y1, y2] at hg
  have hup : up t e = t / 2 ^ e := by
    have : up t e * 2 ^ e / 2 ^ e = t / 2 ^ e := by rw [y2]
    rw [Nat.mul_div_cancel _ hp] at this
    exact this
  rw [hup] at y2 ⊢
  refine ⟨b / 2 ^ e, t / 2 ^ e, y1.symm, y2.symm, Nat.div_le_div_right h, ?_, rfl, rfl, rfl, rfl⟩
  have e2 : (2 : Int) ^ e = ((2 ^ e : Nat) : Int) := by simp
  rw [e2] at hg
  have hg2 : t ≤ b + 2048 * 2 ^ e := by omega
  generalize b / 2 ^ e = A at *
  generalize t / 2 ^ e = T at *
  generalize 2 ^ e = P at *
  subst y1
  subst y2
  rw [← Nat.add_mul] at hg2
  exact Nat.le_of_mul_le_mul_right hg2 hp
/-- The bounds of a region that is exact, wherever the cursor stands within. -/
theorem dec_exact (b t c : Nat) (h : b ≤ t) (h2 : t ≤ 4294967296) (h3 : b < 4294967296) (hx : exB b t = true) (hc1 : b ≤ c) (hc2 : c ≤ t) :
    dBase (expo b t) (m1 b t) (m2 b t) c = b ∧ dTop (expo b t) (m1 b t) (m2 b t) c = t := by
  obtain ⟨A, T, eA, eT, h4, h5, e1, e2, e3, e4⟩ := exact_parts b t h h2 hx
  have he := expo_le (b : Int) (t : Int)
  rw [e1, e2]
  unfold dBase dTop dOk mayB
  have c1 : b / 2 ^ expo b t ≤ c / 2 ^ expo b t := Nat.div_le_div_right hc1
  have c2 : c / 2 ^ expo b t ≤ t / 2 ^ expo b t := Nat.div_le_div_right hc2
  rw [e3] at c1
  rw [e4] at c2
  generalize expo (b : Int) (t : Int) = e at *
  rw [of_same e A c A c1 (by omega) (Nat.le_refl _) (by omega), of_same e A c T c1 (by omega) h4 h5, ← eA, ← eT]
  have o1 : okB (b : Int) (t : Int) = true := by unfold okB; simp; omega
  have o2 : ((b : Int) == 4294967296) = false := by simp; omega
  rw [o1, o2, decide_eq_true he, decide_eq_true (show A % 4096 < 4096 by omega), decide_eq_true (show T % 4096 < 4096 by omega)]
  exact ⟨rfl, rfl⟩
/-- What goes without an exponent is exact. -/
theorem small_exact (b t : Nat) (h : b ≤ t) (h2 : t ≤ b + 2048) : expo (b : Int) (t : Int) = 0 ∧ exB b t = true := by
  have hg : goes (b : Int) (t : Int) 0 = true := by
    rw [goes_iff, rup_nat, rdn_nat]
    simp [up]
    omega
  have e : expo (b : Int) (t : Int) = 0 := by unfold expo; exact expoF_yes _ _ _ _ hg (by omega)
  refine ⟨e, ?_⟩
  unfold exB
  rw [e]
  simp [Nat.mod_one]
end Go.Proofs.YthjbnbimfpbccaaGreatDoor
/-
  What scan.Stale computes: a capability whose base lies in what is painted; a paint that may be none. Condition: numbers in their types' ranges.
-/




set_option linter.unusedVariables false
namespace Go.Proofs.YthjbnbimfpbccaaGreatDoor
open Go.ChangeShapes Go.WideShapes Go.ChangeAt Go.RowKit
/-- A paint at a pointer, or none; hs tells what is painted; its blocks lie below B. -/
def Hs (B : Nat) (w : World) (pv : Option Addr) (hs : Int → Bool) : Prop :=
  (pv = none ∧ hs = fun _ => false) ∨ ∃ pp p g n f, pv = some ⟨pp, 0, none⟩ ∧ Pt w pp p g n f ∧ hs = hasP n f ∧ pp < B ∧ p < B ∧ g < B
section
variable {B B' : Nat} {w w' : World} {pv : Option Addr} {hs : Int → Bool} {S : List Nat}
theorem Hs.fr (h : Hs B w pv hs) (f : Fr S w w') (hS : ∀ k ∈ S, B ≤ k) : Hs B w' pv hs := by
  rcases h with h | ⟨pp, p, g, n, F, h1, h2, h3, h4, h5, h6⟩
  · exact .inl h
  · exact .inr ⟨pp, p, g, n, F, h1, h2.fr f (fun h => by have := hS _ h; omega) (fun h => by have := hS _ h; omega) (fun h => by have := hS _ h; omega), h3, h4, h5, h6⟩
theorem Hs.hp (h : Hs B w pv hs) (hv : w'.heap = w.heap) : Hs B w' pv hs := by
  rcases h with h | ⟨pp, p, g, n, F, h1, h2, h3⟩
  · exact .inl h
  · exact .inr ⟨pp, p, g, n, F, h1, h2.heap hv, h3⟩
theorem Hs.up (h : Hs B w pv hs) (hB : B ≤ B') : Hs B' w pv hs := by
  rcases h with h | ⟨pp, p, g, n, F, h1, h2, h3, h4, h5, h6⟩
  · exact .inl h
  · exact .inr ⟨pp, p, g, n, F, h1, h2, h3, by omega, by omega, by omega⟩
theorem Hs.of {pp p g n : Nat} {f : Nat → Bool} (h : Pt w pp p g n f) : Hs w.heap.size w (some ⟨pp, 0, none⟩) (hasP n f) := .inr ⟨pp, p, g, n, f, rfl, h, rfl, h.lt.1, h.lt.2.1, h.lt.2.2⟩
end
def nohs : Int → Bool := fun _ => false
theorem Hs.nil (B : Nat) (w : World) : Hs B w none nohs := .inl ⟨rfl, rfl⟩
theorem has_any {B : Nat} {w : World} {pv : Option Addr} {hs : Int → Bool} (h : Hs B w pv hs) (a : Int) (ha : 0 ≤ a) (ha2 : a ≤ 4294967295) :
    Calls Tryz.prog 99 #[.pointer pv, .int .u32 a] w fun r w' => r = .returned (.bool (hs a)) ∧ w = w' := by
  rcases h with ⟨rfl, rfl⟩ | ⟨pp, p, g, n, F, rfl, h2, rfl, _⟩
  · exact pthas_nil w a
  · exact pthas_any w pp p g n F h2 a ha ha2
def stB (hs : Int → Bool) (c : Cp) : Bool := c.v && hs c.base
theorem stale_any {B : Nat} {w : World} {pv : Option Addr} {hs : Int → Bool} (h : Hs B w pv hs) (hB : B ≤ w.heap.size) (c : Cp) (hc : c.cur < 4294967296) :
    Calls Tryz.prog 96 #[.agg #[.pointer pv], .agg c.cells] w fun r w' => r = .returned (.bool (stB hs c)) ∧ Fr [] w w' := by
  have hbd := dec_bd c.e c.b c.t c.cur
  have F0 := Lib.hid (show Fr [] w ((w.alloc (.cells #[.pointer pv] 166)).alloc (.cells c.cells 49)) from (by repeat (first | exact Fr.refl _ _ | assumption | refine Fr.trans0 ?_ (by assumption) | refine Fr.drewN ?_ _ | refine Fr.alloc ?_ _ | refine Fr.drew ?_)))
  have A0 := Lib.hid ((At.new w 166 #[.pointer pv]).old (.cells c.cells 49))
  have A1 := At.new (w.alloc (.cells #[.pointer pv] 166)) 49 c.cells
  rw [World.size_alloc] at A1
  have A1 := Lib.hid A1
  have C1 := Lib.hid fun W => range_any W c hc
  have C2 := Lib.hid fun (W : World) (hW : Fr [] w W) => has_any (h.fr hW (by simp)) c.base hbd.1 (by have := hbd.2.1; unfold Cp.base; omega)
  unfold stB
  generalize c.base = X at *
  generalize c.top = Y at *
  generalize hs X = b at *
  obtain ⟨cur, e, cb, ct, pm, ty, rs, v⟩ := c
  unfold Cp.cells at *
  dsimp only at *
  clear hbd h
  cases v
  · go_enter Tryz.func96, Tryz.ntmps96
    go_wp2_with (first | (go_at_call 92; refine (C1.out _).mono ?_; rintro e w2 ⟨rfl, hf2⟩; have c7 := (A1.out.fr hf2 (by simp)).cell 7; have c0 := (A0.out.fr hf2 (by simp)).cell 0; simp only [List.getElem?_toArray, List.getElem?_cons_zero, List.getElem?_cons_succ] at c7 c0) | (go_at_call 99; refine (C2.out _ (F0.out.trans0 hf2)).mono ?_; rintro e w3 ⟨rfl, rfl⟩))
    go_ret
    exact ⟨rfl, F0.out.trans0 hf2⟩
  · go_enter Tryz.func96, Tryz.ntmps96
    go_wp2_with (first | (go_at_call 92; refine (C1.out _).mono ?_; rintro e w2 ⟨rfl, hf2⟩; have c7 := (A1.out.fr hf2 (by simp)).cell 7; have c0 := (A0.out.fr hf2 (by simp)).cell 0; simp only [List.getElem?_toArray, List.getElem?_cons_zero, List.getElem?_cons_succ] at c7 c0) | (go_at_call 99; refine (C2.out _ (F0.out.trans0 hf2)).mono ?_; rintro e w3 ⟨rfl, rfl⟩))
    go_ret
    exact ⟨rfl, F0.out.trans0 hf2⟩
end Go.Proofs.YthjbnbimfpbccaaGreatDoor
/-
  What a look at a page of an arena leaves, in plain words: which tags go, how many. No condition.
-/







set_option linter.unusedVariables false
namespace Go.Proofs.YthjbnbimfpbccaaGreatDoor
open Go.ChangeShapes Go.WideShapes Go.ChangeAt Go.RowKit
/-- Is the capability of a tagged granule stale? -/
def sU (bs : List Nat) (hs : Int → Bool) (a : Nat) : Bool := stB hs (ofB (sub bs a 16) true)
/-- The tags behind a look at some granules. -/
def pgT (bs : List Nat) (hs : Int → Bool) (f : Nat → Bool) (l : List Nat) : Nat → Bool := fun i => f i && !(decide (16 * i ∈ l) && sU bs hs (16 * i))
def pgN (bs : List Nat) (hs : Int → Bool) (l : List Nat) : Nat := (l.filter (sU bs hs)).length
theorem pgT_nil (bs : List Nat) (hs : Int → Bool) (f : Nat → Bool) : pgT bs hs f [] = f := by
  funext i; unfold pgT; simp
/-- Granules of a list: tagged, within, each once. -/
structure Grs (N : Nat) (f : Nat → Bool) (l : List Nat) : Prop where
  nd : l.Nodup
  mod : ∀ a ∈ l, a % 16 = 0
  fit : ∀ a ∈ l, a + 16 ≤ N
  set : ∀ a ∈ l, f (a / 16) = true
theorem tagL_mem (f : Nat → Bool) (k j a : Nat) : a ∈ tagL f k j ↔ ∃ i, i < j ∧ f (k + i) = true ∧ a = (k + i) * 16 := by
  unfold tagL
  rw [List.mem_map]
  constructor
  · rintro ⟨i, hi, rfl⟩
    rw [List.mem_filter, List.mem_range] at hi
    exact ⟨i, hi.1, hi.2, rfl⟩
  · rintro ⟨i, h1, h2, rfl⟩
    exact ⟨i, List.mem_filter.2 ⟨List.mem_range.2 h1, h2⟩, rfl⟩
theorem tagL_grs (N : Nat) (f : Nat → Bool) (k j : Nat) (h : 16 * (k + j) ≤ N) : Grs N f (tagL f k j) := by
  refine ⟨?_, fun a ha => ?_, fun a ha => ?_, fun a ha => ?_⟩
  · unfold tagL
    refine List.Pairwise.map (R := fun i i' => i ≠ i') _ (fun i i' h => by omega) ?_
    exact List.Pairwise.filter _ List.nodup_range
  · obtain ⟨i, _, _, rfl⟩ := (tagL_mem f k j a).1 ha; omega
  · obtain ⟨i, _, _, rfl⟩ := (tagL_mem f k j a).1 ha; omega
  · obtain ⟨i, _, h2, rfl⟩ := (tagL_mem f k j a).1 ha
    rw [Nat.mul_div_cancel _ (by omega)]; exact h2
theorem tgP_grs (N : Nat) (f : Nat → Bool) (page : Int) : Grs N f (tgP N f page) := by
  unfold tgP
  split
  · exact tagL_grs N f _ _ (by omega)
  · exact ⟨List.nodup_nil, by simp, by simp, by simp⟩
theorem tgP_mem (N : Nat) (f : Nat → Bool) (P i : Nat) (hP : P < N / 256) : 16 * i ∈ tgP N f P ↔ i / 16 = P ∧ f i = true := by
  unfold tgP
  rw [if_pos ⟨by omega, by omega⟩, tagL_mem, Int.toNat_natCast]
  constructor
  · rintro ⟨j, h1, h2, h3⟩
    have e : i = 16 * P + j := by omega
    exact ⟨by omega, by rw [e]; exact h2⟩
  · rintro ⟨h1, h2⟩
    exact ⟨i - 16 * P, by omega, by rw [show 16 * P + (i - 16 * P) = i by omega]; exact h2, by omega⟩
section
variable {N : Nat} {f : Nat → Bool} {l : List Nat} (h : Grs N f l) (bs : List Nat) (hs : Int → Bool) (k a : Nat) (hk : l[k]? = some a)
include h hk
theorem Grs.not_before : a ∉ l.take k := fun hm => by
  obtain ⟨j, hj, he⟩ := List.getElem_of_mem hm
  rw [List.getElem_take] at he
  have hjk : j < k := by simp at hj; omega
  have hkl := (List.getElem?_eq_some_iff.1 hk)
  obtain ⟨hlt, he2⟩ := hkl
  have := (List.nodup_iff_pairwise_ne.1 h.nd)
  rw [List.pairwise_iff_getElem] at this
  exact this j k (by omega) hlt hjk (he.trans he2.symm)
theorem Grs.still : pgT bs hs f (l.take k) (a / 16) = true := by
  have hm := List.mem_of_getElem? hk
  unfold pgT
  have e : 16 * (a / 16) = a := by have := h.mod a hm; omega
  rw [e, decide_eq_false (h.not_before k a hk), h.set a hm]
  rfl
theorem Grs.taken (hs1 : sU bs hs a = true) : upd (pgT bs hs f (l.take k)) (a / 16) false = pgT bs hs f (l.take (k + 1)) := by
  have hm := List.mem_of_getElem? hk
  have e : 16 * (a / 16) = a := by have := h.mod a hm; omega
  funext i
  unfold upd
  have ht : l.take (k + 1) = l.take k ++ [a] := by rw [List.take_add_one, hk]; rfl
  by_cases hi : i = a / 16
  · subst hi
    rw [if_pos rfl]
    unfold pgT
    rw [e, hs1, ht, decide_eq_true (by simp)]
    simp
  · rw [if_neg hi]
    unfold pgT
    rw [ht]
    have : (16 * i ∈ l.take k ++ [a]) ↔ 16 * i ∈ l.take k := by
      rw [List.mem_append, List.mem_singleton]
      constructor
      · rintro (h | h)
        · exact h
        · omega
      · exact .inl
    simp only [this]
omit h in
theorem pgT_kept (hs1 : sU bs hs a = false) : pgT bs hs f (l.take k) = pgT bs hs f (l.take (k + 1)) := by
  funext i
  unfold pgT
  have ht : l.take (k + 1) = l.take k ++ [a] := by rw [List.take_add_one, hk]; rfl
  rw [ht]
  by_cases hi : 16 * i = a
  · rw [hi, hs1]; simp
  · have : (16 * i ∈ l.take k ++ [a]) ↔ 16 * i ∈ l.take k := by
      rw [List.mem_append, List.mem_singleton]
      exact ⟨fun h => h.resolve_right hi, .inl⟩
    simp only [this]
omit h in
theorem pgN_snoc : pgN bs hs (l.take (k + 1)) = pgN bs hs (l.take k) + (if sU bs hs a = true then 1 else 0) := by
  have ht : l.take (k + 1) = l.take k ++ [a] := by rw [List.take_add_one, hk]; rfl
  unfold pgN
  rw [ht, List.filter_append, List.length_append]
  by_cases hi : sU bs hs a = true
  · simp [hi]
  · simp [hi]
end
end Go.Proofs.YthjbnbimfpbccaaGreatDoor
/-
  scan.Page: which tags of a page it takes, and how many. Condition: the paint's blocks are older than the arena's.
-/







set_option linter.unusedVariables false
namespace Go.Proofs.YthjbnbimfpbccaaGreatDoor
open Go.ChangeShapes Go.WideShapes Go.ChangeAt Go.RowKit
theorem u32s_get (l : List Nat) (k a : Nat) (h : l[k]? = some a) : (u32s l)[k]? = some (.int .u32 (a : Int)) := by unfold u32s; rw [List.getElem?_map, h]; rfl
theorem Ar.wordsAt {w : World} {ap p g bg cap : Nat} {bs : List Nat} {f : Nat → Bool} (h : Ar w ap p g bg cap bs f) : ∃ cs, At w g 28 cs := by
  obtain ⟨a1, a2, a3, a4, a5, a6, ⟨b1, b2, b3, c, cs', b4, b5, b6, b7⟩, _⟩ := h
  exact ⟨_, b6⟩
theorem ofB_ok (l : List Nat) (v : Bool) (hl : Byt l) (hn : l.length = 16) : (ofB l v).cur < 4294967296 := by
  exact (ofB0_ok l hl).cur
set_option maxHeartbeats 2000000 in
set_option maxRecDepth 100000 in
theorem spage_gen {w : World} {pv : Option Addr} {hs : Int → Bool} (ap p g bg cap : Nat) (bs : List Nat) (f : Nat → Bool) (h : Ar w ap p g bg cap bs f) (hh : ∀ W, Fr [g] w W → ∃ B, B ≤ W.heap.size ∧ Hs B W pv hs) (page : Int) :
    Calls Tryz.prog 53 #[.pointer (some ⟨ap, 0, none⟩), .int .i64 page, .pointer pv] w fun r w' => r = .returned (.int .i64 (pgN bs hs (tgP bs.length f page) : Nat)) ∧ Ar w' ap p g bg cap bs (pgT bs hs f (tgP bs.length f page)) ∧ Fr [g] w w' := by
  have CT := Lib.hid (atagged_any w ap p g bg cap bs f h page)
  have hlt := tgP_len bs.length f page
  have HG := Lib.hid (tgP_grs bs.length f page)
  obtain ⟨l, hl⟩ : ∃ l, tgP bs.length f page = l := ⟨_, rfl⟩
  rw [hl] at CT hlt HG ⊢
  obtain ⟨n, hn⟩ : ∃ n, l.length = n := ⟨_, rfl⟩
  rw [hn] at CT hlt
  have HN := Lib.hid hn
  have H := Lib.hid h
  have HH := Lib.hid hh
  have hgl := h.lt.2.2.1
  have HIC := Lib.hid (fun c : Cp => (show (Tryz.prog.info? 49).map (·.size) = some c.cells.size from infoCapZ))
  clear hl hn h hh
  go_enter Tryz.func53, Tryz.ntmps53
  go_wp2_with fail
  refine (CT.out).mono ?_
  rintro e w2 ⟨v, rfl, ho, hf2⟩
  obtain ⟨va, vc, rfl, hvc⟩ := own_slice ho
  have O2 := Lib.hid (own_base ho (Nat.zero_le _))
  have F2 := Lib.hid hf2
  clear ho hf2 CT
  go_wp2_with fail
  go_loopw [8, 20] (fun sn i wr => ∃ k : Nat, k ≤ n ∧ i = .int .i64 k ∧ sn = .int .i64 (pgN bs hs (l.take k) : Nat) ∧ Ar wr ap p g bg cap bs (pgT bs hs f (l.take k)) ∧ wr.ownsRow 0 43 1 (.slice va n vc) n (u32s l) ∧ Fr [g] w wr) (fun _ i _ => n - (intOf i).toNat)
  case atStart => exact ⟨0, by omega, rfl, by simp [pgN], by rw [List.take_zero, pgT_nil]; exact H.out.fr0 F2.out, O2.out, F2.out.more (by simp)⟩
  case round =>
    clear O2 F2
    obtain ⟨k, hk, rfl, rfl, ha, ho, hf⟩ := hrel
    have HA := Lib.hid ha
    have HO := Lib.hid ho
    have HF := Lib.hid hf
    have hsz := hf.size
    by_cases h1 : k < n
    · obtain ⟨a, hka⟩ : ∃ a, l[k]? = some a := ⟨_, List.getElem?_eq_getElem (by rw [HN.out]; exact h1)⟩
      have hma := List.mem_of_getElem? hka
      have hfit := HG.out.fit a hma
      have hmod := HG.out.mod a hma
      have hbl := ha.2.1
      have ha32 : a < 4294967296 := by omega
      obtain ⟨gl, cl, he, -, -, hgll, hcl, -⟩ := own_open ho (by omega)
      injection he with e1 e2 e3
      subst e1 e3
      have cc := hcl k h1
      rw [u32s_get l k a hka] at cc
      have hst := HG.out.still bs hs k a hka
      have CL := Lib.hid (show Calls Tryz.prog 40 #[.pointer (some ⟨ap, 0, none⟩), .int .u32 a] wr fun r w' => r = .returned (.tuple #[.agg (ofB (sub bs a 16) true).cells, .bool true]) ∧ Fr [] wr w' from by
        have := aloadc_b wr ap p g bg cap bs _ ha a ha32
        unfold ldC at this
        rw [show whB bs.length a = true by unfold whB; simp; omega, if_pos rfl, hst] at this
        exact this)
      have hcur := ofB_ok (sub bs a 16) true (fun x hx => ha.2.2.2.2.1 x (List.mem_of_mem_drop (List.mem_of_mem_take hx))) (by unfold sub; rw [List.length_take, List.length_drop]; omega)
      have CU := Lib.hid fun W (hW : Fr [] wr W) => (show Calls Tryz.prog 97 #[.pointer (some ⟨ap, 0, none⟩), .int .u32 a] W fun r w' => r = .returned (.bool true) ∧ Ar w' ap p g bg cap bs (upd (pgT bs hs f (l.take k)) (a / 16) false) ∧ Fr [g] W w' from by
        have := auntag_any W ap p g bg cap bs _ (ha.fr0 hW) a ha32
        unfold unB at this
        rw [show whB bs.length a = true by unfold whB; simp; omega, hst, Bool.true_and, if_pos rfl] at this
        exact this)
      have HTK := Lib.hid (HG.out.taken bs hs k a hka)
      have HKP := Lib.hid (pgT_kept (f := f) bs hs k a hka)
      have HSN := Lib.hid (pgN_snoc bs hs k a hka)
      have hpn : pgN bs hs (l.take k) ≤ 16 := by unfold pgN; exact Nat.le_trans (List.length_filter_le _ _) (by rw [List.length_take]; omega)
      obtain ⟨N, hN⟩ : ∃ N, pgN bs hs (l.take k) = N := ⟨_, rfl⟩
      rw [hN] at hpn HSN ⊢
      have CS := Lib.hid fun W (hW : Fr [] wr W) => (show Calls Tryz.prog 96 #[.agg #[.pointer pv], .agg (ofB (sub bs a 16) true).cells] W fun r w' => r = .returned (.bool (sU bs hs a)) ∧ Fr [] W w' from (HH.out W (hf.trans0 hW)).elim fun B hb => stale_any hb.2 hb.1 _ hcur)
      obtain ⟨T, hT⟩ : ∃ T, sU bs hs a = T := ⟨_, rfl⟩
      obtain ⟨c, hc⟩ : ∃ c, ofB (sub bs a 16) true = c := ⟨_, rfl⟩
      rw [hT] at CS HTK HKP HSN
      rw [hc] at CS CL
      have hki : (k : Int) < n := by omega
      have hgA := Ar.wordsAt ha
      obtain ⟨gcs, hgA⟩ := hgA
      have HNE := Lib.hid (own_ne ho hgA (by decide))
      clear hka hma hfit hmod hbl hcl hst hcur hN hT hc ha ho hf hgA
      cases T with
      | true =>
        go_wp2_with fail
        refine (CL.out).mono ?_
        rintro e w4 ⟨rfl, hf4⟩
        have F4 := Lib.hid (hf4.alloc (.cells noC.cells 49))
        have hs4 := hf4.size
        clear hf4
        go_upto_region 7 with (refine wpList_store_all rfl 49 (.tmp 11) (.tmp 28) rfl _ c.cells rfl rfl 49 noC.cells (At.nw rfl) (HIC.out c) rfl (cellz_all c) ?_; intro w5 hA5 hF5)
        have A5 := Lib.hid hA5
        have F5 := Lib.hid (F4.out.trans hF5 (by simp <;> omega))
        clear hA5 hF5 F4
        go_wp2_with (refine wpList_load_all rfl 49 (.tmp 11) rfl _ rfl 49 c.cells _ A5.out Tryz.underlying49 rfl (HIC.out c) ?_)
        refine (CS.out _ F5.out).mono ?_
        rintro e w6 ⟨rfl, hf6⟩
        go_wp2_with fail
        refine (CU.out _ (F5.out.trans0 hf6)).mono ?_
        rintro e w7 ⟨rfl, h7, hf7⟩
        rw [HTK.out (by simp)] at h7
        have H7 := Lib.hid h7
        have F7 := Lib.hid ((HF.out.trans0 (F5.out.trans0 hf6)).trans hf7 (fun x hx => .inl hx))
        have O7 := Lib.hid (own_fr (own_fr0 HO.out (F5.out.trans0 hf6)) hf7 (fun x hx => by simpa using HNE.out x hx))
        clear h7 hf7 hf6 HTK HKP
        have HSN' := Lib.hid (show pgN bs hs (l.take (k + 1)) = N + 1 from HSN.out)
        clear HSN
        go_wp2_with fail
        go_roundw
        case rel => exact ⟨k + 1, by omega, by go_num, by rw [HSN'.out]; go_num, H7.out, O7.out, F7.out⟩
        case measure => simp [intOf]; omega
      | false =>
        go_wp2_with fail
        refine (CL.out).mono ?_
        rintro e w4 ⟨rfl, hf4⟩
        have F4 := Lib.hid (hf4.alloc (.cells noC.cells 49))
        have hs4 := hf4.size
        clear hf4
        go_upto_region 7 with (refine wpList_store_all rfl 49 (.tmp 11) (.tmp 28) rfl _ c.cells rfl rfl 49 noC.cells (At.nw rfl) (HIC.out c) rfl (cellz_all c) ?_; intro w5 hA5 hF5)
        have A5 := Lib.hid hA5
        have F5 := Lib.hid (F4.out.trans hF5 (by simp <;> omega))
        clear hA5 hF5 F4
        go_wp2_with (refine wpList_load_all rfl 49 (.tmp 11) rfl _ rfl 49 c.cells _ A5.out Tryz.underlying49 rfl (HIC.out c) ?_)
        refine (CS.out _ F5.out).mono ?_
        rintro e w6 ⟨rfl, hf6⟩
        have H7 := Lib.hid (HA.out.fr0 (F5.out.trans0 hf6))
        rw [HKP.out (by simp)] at H7
        have F7 := Lib.hid (HF.out.trans0 (F5.out.trans0 hf6))
        have O7 := Lib.hid (own_fr0 HO.out (F5.out.trans0 hf6))
        clear hf6 HTK HKP
        have HSN' := Lib.hid (show pgN bs hs (l.take (k + 1)) = N from HSN.out)
        clear HSN
        go_wp2_with fail
        go_roundw
        case rel => exact ⟨k + 1, by omega, by go_num, by rw [HSN'.out], H7.out, O7.out, F7.out⟩
        case measure => simp [intOf]; omega
    · obtain rfl : k = n := by omega
      go_wp2_with fail
      go_ret
      have hA := HA.out
      rw [← HN.out, List.take_length] at hA ⊢
      exact ⟨rfl, hA, HF.out⟩
theorem spage_any {B : Nat} {w : World} {pv : Option Addr} {hs : Int → Bool} (ap p g bg cap : Nat) (bs : List Nat) (f : Nat → Bool) (h : Ar w ap p g bg cap bs f) (hh : Hs B w pv hs) (hB : B ≤ w.heap.size) (hBg : B ≤ g) (page : Int) :
    Calls Tryz.prog 53 #[.pointer (some ⟨ap, 0, none⟩), .int .i64 page, .pointer pv] w fun r w' => r = .returned (.int .i64 (pgN bs hs (tgP bs.length f page) : Nat)) ∧ Ar w' ap p g bg cap bs (pgT bs hs f (tgP bs.length f page)) ∧ Fr [g] w w' :=
  spage_gen ap p g bg cap bs f h (fun W hW => ⟨B, Nat.le_trans hB hW.size, hh.fr hW (by simp; omega)⟩) page
end Go.Proofs.YthjbnbimfpbccaaGreatDoor
/-
  A sweeper with its arena, its yard and its book of pages. Condition: the table of math/bits is as the library lays it; an arena of sixteen pages.
-/









set_option linter.unusedVariables false
namespace Go.Proofs.YthjbnbimfpbccaaGreatDoor
open Go.ChangeShapes Go.WideShapes Go.ChangeAt Go.RowKit
/-- Where the parts lie. -/
structure Ids where
  sp : Nat
  gp : Nat
  p : Nat
  g : Nat
  ap : Nat
  q : Nat
  ag : Nat
  bg : Nat
  cap : Nat
  y : Nat
/-- What they hold. -/
structure Sm where
  st : Nat
  vis : Nat
  F : Nat → Bool
  m : MS
  bs : List Nat
  f : Nat → Bool
  hs : Int → Bool
def Ids.mut (i : Ids) : List Nat := [i.sp, i.gp, i.g, i.ag, i.bg]
def Pn (w : World) (i : Ids) (s : YS) (pv : Option Addr) (hs : Int → Bool) : Prop :=
  (pv = none ∧ hs = nohs) ∨ ∃ pp pq pg n Fp, pv = some ⟨pp, 0, none⟩ ∧ Pt w pp pq pg n Fp ∧ hs = hasP n Fp ∧ pg ≠ i.g ∧ pg ≠ i.ag ∧ pg ∉ s.foot
def Sm.cells (i : Ids) (x : Sm) (pv : Option Addr) : Array Value := #[.pointer (some ⟨i.gp, 0, none⟩), .pointer (some ⟨i.ap, 0, none⟩), .pointer (some ⟨i.y, 0, none⟩), .pointer pv, .int .i64 (x.st : Nat), .int .u64 (x.vis : Nat)]
structure Sv (w0 w : World) (i : Ids) (s : YS) (x : Sm) (pv : Option Addr) : Prop where
  S : At w i.sp 109 (x.cells i pv)
  P : Pn w i s pv x.hs
  G : Gn w i.gp i.p i.g 16 x.F x.m.ep
  A : Ar w i.ap i.q i.ag i.bg i.cap x.bs x.f
  Y : Yw w0 w i.y x.m s
  T : Tab w0
  d : i.p ≠ i.q ∧ i.g ≠ i.ag
  o : (i.g ≠ s.c ∧ i.g ≠ s.c') ∧ (i.ag ≠ s.c ∧ i.ag ≠ s.c')
  hi : ∀ k ∈ i.mut, w0.heap.size ≤ k
  n : x.m.n = 256
structure Sw (w0 w : World) (i : Ids) (s : YS) (x : Sm) (pv : Option Addr) : Prop extends Sv w0 w i s x pv where
  un : x.m.un = decide (x.st ≠ 0)
  z : x.st = 0 → cnt x.F 16 = 0
section
variable {w0 w w' : World} {i : Ids} {s : YS} {x : Sm} {pv : Option Addr}
theorem Pn.fr0 {hs : Int → Bool} (h : Pn w i s pv hs) (f : Fr [] w w') : Pn w' i s pv hs := by
  rcases h with h | ⟨pp, pq, pg, n, Fp, h1, h2, h3⟩
  · exact .inl h
  · exact .inr ⟨pp, pq, pg, n, Fp, h1, h2.fr f (by simp) (by simp) (by simp), h3⟩
theorem Sv.fr0 (h : Sv w0 w i s x pv) (f : Fr [] w w') : Sv w0 w' i s x pv :=
  ⟨h.S.fr f (by simp), h.P.fr0 f, h.G.fr f (by simp) (by simp) (by simp), h.A.fr0 f, h.Y.fr f, h.T, h.d, h.o, h.hi, h.n⟩
theorem Sw.fr0 (h : Sw w0 w i s x pv) (f : Fr [] w w') : Sw w0 w' i s x pv := ⟨h.toSv.fr0 f, h.un, h.z⟩
theorem Gn.words {gp p g n : Nat} {f : Nat → Bool} {ep : Int} (h : Gn w gp p g n f ep) : (∃ cs, At w p 179 cs) ∧ ∃ cs, At w g 28 cs := by
  obtain ⟨_, ⟨b1, b2, b3, c, cs', b4, b5, b6, b7⟩, _⟩ := h
  exact ⟨⟨_, b5⟩, _, b6⟩
theorem Sv.off (h : Sv w0 w i s x pv) : ∀ k ∈ i.mut, Offy w s k := by
  intro k hk
  unfold Ids.mut at hk
  simp only [List.mem_cons, List.not_mem_nil, or_false] at hk
  rcases hk with rfl | rfl | rfl | rfl | rfl
  · exact ⟨_, _, h.S, by decide, by decide, by decide, by decide, fun e => absurd e (by decide)⟩
  · exact ⟨_, _, h.G.1, by decide, by decide, by decide, by decide, fun e => absurd e (by decide)⟩
  · obtain ⟨_, _, hw⟩ := Gn.words h.G
    exact ⟨_, _, hw, by decide, by decide, by decide, by decide, fun _ => h.o.1⟩
  · obtain ⟨_, hw⟩ := Ar.wordsAt h.A
    exact ⟨_, _, hw, by decide, by decide, by decide, by decide, fun _ => h.o.2⟩
  · obtain ⟨a1, a2, a3, a4, a5, a6, a7, cs, a8, a9, a10⟩ := h.A
    exact ⟨_, _, a8, by decide, by decide, by decide, by decide, fun e => absurd e (by decide)⟩
theorem Sv.yard {S : List Nat} (h : Sv w0 w i s x pv) (hS : ∀ k ∈ S, k ∈ i.mut) (f : Fr S w w') : Yw w0 w' i.y x.m s :=
  h.Y.offY (fun k hk => ⟨h.off k (hS k hk), h.hi k (hS k hk)⟩) f
theorem Sv.paint {S : List Nat} (h : Sv w0 w i s x pv) (hS : ∀ k ∈ S, k ∈ i.mut) (f : Fr S w w') : Pn w' i s pv x.hs := by
  rcases h.P with h1 | ⟨pp, pq, pg, n, Fp, h1, h2, h3, h4, h5, h6⟩
  · exact .inl h1
  · obtain ⟨⟨_, k1⟩, ⟨_, k2⟩, ⟨_, k3⟩⟩ := Pt.blocks h2
    obtain ⟨_, _, hg⟩ := Gn.words h.G
    obtain ⟨_, hag⟩ := Ar.wordsAt h.A
    obtain ⟨a1, a2, a3, a4, a5, a6, a7, cs, a8, a9, a10⟩ := h.A
    have no : ∀ k t cs, At w k t cs → (t = 204 ∨ t = 179 ∨ (t = 28 ∧ k ≠ i.g ∧ k ≠ i.ag)) → k ∉ S := by
      intro k t cs hk ht hin
      have hm := hS k hin
      unfold Ids.mut at hm
      simp only [List.mem_cons, List.not_mem_nil, or_false] at hm
      rcases hm with rfl | rfl | rfl | rfl | rfl
      · have := (h.S.inj hk).1; subst this; revert ht; simp
      · have := (h.G.1.inj hk).1; subst this; revert ht; simp
      · have := (hg.inj hk).1; subst this; revert ht; simp
      · have := (hag.inj hk).1; subst this; revert ht; simp
      · have := (a8.inj hk).1; subst this; revert ht; simp
    exact .inr ⟨pp, pq, pg, n, Fp, h1, h2.fr f (no _ _ _ k1 (.inl rfl)) (no _ _ _ k2 (.inr (.inl rfl))) (no _ _ _ k3 (.inr (.inr ⟨rfl, h4, h5⟩))), h3, h4, h5, h6⟩
theorem Sv.notin (h : Sv w0 w i s x pv) {S : List Nat} (hS : ∀ k ∈ S, k ∈ i.mut) {k : Nat} {t : TypeId} {cs : Array Value} (hk : At w k t cs) (h1 : t ≠ 109) (h2 : t ≠ 164) (h3 : t ≠ 28) (h4 : t ≠ 5) : k ∉ S := by
  intro hin
  obtain ⟨_, _, hg⟩ := Gn.words h.G
  obtain ⟨_, hag⟩ := Ar.wordsAt h.A
  obtain ⟨a1, a2, a3, a4, a5, a6, a7, cs, a8, a9, a10⟩ := h.A
  have hm := hS k hin
  unfold Ids.mut at hm
  simp only [List.mem_cons, List.not_mem_nil, or_false] at hm
  rcases hm with rfl | rfl | rfl | rfl | rfl
  · exact h1 (h.S.inj hk).1.symm
  · exact h2 (h.G.1.inj hk).1.symm
  · exact h3 (hg.inj hk).1.symm
  · exact h3 (hag.inj hk).1.symm
  · exact h4 (a8.inj hk).1.symm
theorem Sv.gens {S : List Nat} (h : Sv w0 w i s x pv) (hS : ∀ k ∈ S, k ∈ i.mut) (f : Fr S w w') (h1 : i.gp ∉ S) (h2 : i.g ∉ S) : Gn w' i.gp i.p i.g 16 x.F x.m.ep := by
  obtain ⟨⟨_, hp⟩, _⟩ := Gn.words h.G
  exact h.G.fr f h1 (h.notin hS hp (by decide) (by decide) (by decide) (by decide)) h2
theorem Sv.arena {S : List Nat} (h : Sv w0 w i s x pv) (hS : ∀ k ∈ S, k ∈ i.mut) (f : Fr S w w') (h1 : i.ag ∉ S) (h2 : i.bg ∉ S) : Ar w' i.ap i.q i.ag i.bg i.cap x.bs x.f := by
  obtain ⟨a1, a2, a3, a4, a5, a6, ⟨b1, b2, b3, c, cs', b4, b5, b6, b7⟩, cs, a8, a9, a10⟩ := id h.A
  exact h.A.fr f (h.notin hS a6 (by decide) (by decide) (by decide) (by decide)) (h.notin hS b5 (by decide) (by decide) (by decide) (by decide)) h1 h2
theorem Sv.ne (h : Sv w0 w i s x pv) : (i.sp ≠ i.gp ∧ i.sp ≠ i.g ∧ i.sp ≠ i.ag ∧ i.sp ≠ i.bg) ∧ (i.gp ≠ i.g ∧ i.gp ≠ i.ag ∧ i.gp ≠ i.bg) ∧ (i.g ≠ i.ag ∧ i.g ≠ i.bg) ∧ i.ag ≠ i.bg := by
  obtain ⟨_, _, hg⟩ := Gn.words h.G
  obtain ⟨_, hag⟩ := Ar.wordsAt h.A
  obtain ⟨a1, a2, a3, a4, a5, a6, a7, cs, a8, a9, a10⟩ := id h.A
  have hgp := h.G.1
  have hsp := h.S
  exact ⟨⟨hsp.diff hgp (by decide), hsp.diff hg (by decide), hsp.diff hag (by decide), hsp.diff a8 (by decide)⟩, ⟨hgp.diff hg (by decide), hgp.diff hag (by decide), hgp.diff a8 (by decide)⟩, ⟨h.d.2, hg.diff a8 (by decide)⟩, hag.diff a8 (by decide)⟩
/-- A change in the sweeper's own cells. -/
theorem Sv.self {pv' : Option Addr} (h : Sv w0 w i s x pv) (st vis : Nat) (hs' : Int → Bool) (f : Fr [i.sp] w w') (hS : At w' i.sp 109 (({ x with st := st, vis := vis, hs := hs' } : Sm).cells i pv')) (hP : Pn w' i s pv' hs') : Sv w0 w' i s { x with st := st, vis := vis, hs := hs' } pv' := by
  have hm : ∀ k ∈ [i.sp], k ∈ i.mut := by unfold Ids.mut; simp
  obtain ⟨⟨n1, n2, n3, n4⟩, _⟩ := h.ne
  exact ⟨hS, hP, h.gens hm f (by simpa using n1.symm) (by simpa using n2.symm), h.arena hm f (by simpa using n3.symm) (by simpa using n4.symm), h.yard hm f, h.T, h.d, h.o, h.hi, h.n⟩
theorem Sw.self {pv' : Option Addr} (h : Sw w0 w i s x pv) (st vis : Nat) (hs' : Int → Bool) (f : Fr [i.sp] w w') (hS : At w' i.sp 109 (({ x with st := st, vis := vis, hs := hs' } : Sm).cells i pv')) (hP : Pn w' i s pv' hs')
    (un : x.m.un = decide (st ≠ 0)) (z : st = 0 → cnt x.F 16 = 0) : Sw w0 w' i s { x with st := st, vis := vis, hs := hs' } pv' := ⟨h.toSv.self st vis hs' f hS hP, un, z⟩
end
end Go.Proofs.YthjbnbimfpbccaaGreatDoor
/-
  A sweeper behind a turn of its yard. Condition: as for a sweeper.
-/









set_option linter.unusedVariables false
namespace Go.Proofs.YthjbnbimfpbccaaGreatDoor
open Go.ChangeShapes Go.WideShapes Go.ChangeAt Go.RowKit
section
variable {w0 w w' : World} {i : Ids} {s s' : YS} {x : Sm} {pv : Option Addr} {m' : MS}
theorem Yw.nfootT {y : Nat} {m : MS} (h : Yw w0 w y m s) {k : Nat} {t : TypeId} {cs : Array Value} (hk : At w k t cs) (h1 : t ≠ 119) (h2 : t ≠ 28) (h3 : t ≠ 45) : k ∉ s.foot := fun hin => by
  unfold YS.foot at hin
  rcases List.mem_cons.1 hin with e | hin
  · subst e; exact h1 (h.yd.at_.inj hk).1.symm
  · rcases List.mem_cons.1 hin with e | hin
    · obtain ⟨_, _, ⟨_, hc⟩⟩ := Pt.blocks h.yd.wt.pt
      subst e; exact h2 (hc.inj hk).1.symm
    · cases hv : s.wv.ownBlock with
      | none => rw [hv] at hin; simp at hin
      | some g => rw [hv] at hin; simp at hin; exact own_ne h.yd.wt.own hk h3 g hv hin.symm
theorem Sv.turn (h : Sv w0 w i s x pv) (ht : TurnC w0 w i.y s m' w' s') (hn : m'.n = x.m.n) (he : m'.ep = x.m.ep) (st : Nat) (un : m'.un = decide (st ≠ 0)) (z : st = 0 → cnt x.F 16 = 0) (hS : At w' i.sp 109 (({ x with st := st, m := m' } : Sm).cells i pv)) :
    Sw w0 w' i s' { x with st := st, m := m' } pv := by
  have o : ∀ k ∈ i.mut, k ∉ s.foot := fun k hk => h.Y.nfootY (h.off k hk)
  have lt := foot_ltY h.Y
  obtain ⟨⟨_, hp⟩, _, hg⟩ := Gn.words h.G
  obtain ⟨a1, a2, a3, a4, a5, a6, ⟨b1, b2, b3, c, cs', b4, b5, b6, b7⟩, cs, a8, a9, a10⟩ := id h.A
  have G' : Gn w' i.gp i.p i.g 16 x.F x.m.ep := h.G.fr ht.f (o _ (by unfold Ids.mut; simp)) (h.Y.nfootT hp (by decide) (by decide) (by decide)) (o _ (by unfold Ids.mut; simp))
  have A' : Ar w' i.ap i.q i.ag i.bg i.cap x.bs x.f := h.A.fr ht.f (h.Y.nfootT a6 (by decide) (by decide) (by decide)) (h.Y.nfootT b5 (by decide) (by decide) (by decide)) (o _ (by unfold Ids.mut; simp)) (o _ (by unfold Ids.mut; simp))
  have og : Offy w' s' i.g := (h.off i.g (by unfold Ids.mut; simp)).turn h.Y ht
  have oag : Offy w' s' i.ag := (h.off i.ag (by unfold Ids.mut; simp)).turn h.Y ht
  refine ⟨⟨hS, ?_, he ▸ G', A', ht.yw, h.T, h.d, ⟨?_, ?_⟩, h.hi, hn.trans h.n⟩, un, z⟩
  · rcases h.P with h1 | ⟨pp, pq, pg, n, Fp, k1, k2, k3, k4, k5, k6⟩
    · exact .inl h1
    · obtain ⟨⟨_, l1⟩, ⟨_, l2⟩, ⟨_, l3⟩⟩ := Pt.blocks k2
      refine .inr ⟨pp, pq, pg, n, Fp, k1, k2.fr ht.f (h.Y.nfootT l1 (by decide) (by decide) (by decide)) (h.Y.nfootT l2 (by decide) (by decide) (by decide)) k6, k3, k4, k5, fun hin => ?_⟩
      rcases ht.foot pg hin with e | e
      · exact k6 e
      · have := l3.lt; omega
  · obtain ⟨t, cs, hq, -, -, -, -, t5⟩ := og
    obtain ⟨_, _, hg'⟩ := Gn.words G'
    exact t5 (hq.inj hg').1
  · obtain ⟨t, cs, hq, -, -, -, -, t5⟩ := oag
    obtain ⟨_, hag'⟩ := Ar.wordsAt A'
    exact t5 (hq.inj hag').1
end
end Go.Proofs.YthjbnbimfpbccaaGreatDoor
