/-
  What the small functions of paint compute: a paint at block pp over a map of tags. Condition: at most 16384 granules.
-/



import Derived.Test.YtilgklpponaoeaaTags
import Derived.Test.YtilgklpponaoeaaCopy
set_option linter.unusedVariables false
namespace Go.Proofs.Ytilgklpponaoeaa
open Go.ChangeShapes Go.WideShapes Go.ChangeAt Go.RowKit
def Pt (w : World) (pp p g n : Nat) (f : Nat → Bool) : Prop := At w pp 117 #[.pointer (some ⟨p, 0, none⟩)] ∧ Tg w p g n f ∧ pp ≠ p ∧ pp ≠ g ∧ n ≤ 16384
section
variable {w w' v : World} {pp p g n : Nat} {f f' : Nat → Bool} {S : List Nat}
theorem Pt.c (h : Pt w pp p g n f) : w.cell? ⟨pp, 0, none⟩ = some (.pointer (some ⟨p, 0, none⟩)) := h.1.cell 0
theorem Pt.fr (h : Pt w pp p g n f) (hf : Fr S w w') (h1 : pp ∉ S) (h2 : p ∉ S) (h3 : g ∉ S) : Pt w' pp p g n f := ⟨h.1.fr hf h1, h.2.1.fr hf h2 h3, h.2.2⟩
theorem Pt.put (h : Pt w pp p g n f) (hf : Fr [g] w w') (ht : Tg w' p g n f') : Pt w' pp p g n f' := ⟨h.1.fr hf (by simp; exact h.2.2.2.1), ht, h.2.2⟩
theorem Pt.heap (h : Pt w pp p g n f) (hv : w'.heap = w.heap) : Pt w' pp p g n f := by unfold Pt Tg At at *; rw [hv]; exact h
theorem Pt.drewN (h : Pt w pp p g n f) (m : Nat) : Pt (w.drewN m) pp p g n f := h.heap rfl
theorem Pt.lt (h : Pt w pp p g n f) : pp < w.heap.size ∧ p < w.heap.size ∧ g < w.heap.size := ⟨h.1.lt, h.2.1.lt⟩
end
theorem ptnone_any (w : World) (pp p g n : Nat) (f : Nat → Bool) (h : Pt w pp p g n f) :
    Calls Try.prog 86 #[.pointer (some ⟨pp, 0, none⟩)] w fun r w' => r = .returned (.bool false) ∧ w = w' := by
  have c := h.c
  go_enter Try.func86, Try.ntmps86
  go_wp2
  go_ret
  exact ⟨rfl, rfl⟩
theorem ptnone_nil (w : World) : Calls Try.prog 86 #[.pointer none] w fun r w' => r = .returned (.bool true) ∧ w = w' := by
  go_enter Try.func86, Try.ntmps86
  go_wp2
  go_ret
  exact ⟨rfl, rfl⟩
theorem ptnew_any (n : Nat) (w : World) (hn : n ≤ 16384) :
    Calls Try.prog 24 #[.int .i64 (16 * n : Nat)] w fun r w' => ∃ pp p g, r = .returned (.pointer (some ⟨pp, 0, none⟩)) ∧ Pt w' pp p g n (fun _ => false) ∧ w.heap.size ≤ pp ∧ w.heap.size ≤ p ∧ w.heap.size ≤ g ∧ Fr [] w w' := by
  obtain ⟨b, hb⟩ : ∃ b, 16 * n = b := ⟨_, rfl⟩
  have C := Lib.hid fun w => new_any n w (by omega)
  have e1 : (b : Int) / 16 = n := by omega
  have e2 : ((b : Int) % 16 != 0) = false := by simp; omega
  rw [hb]
  have hb2 : b ≤ 262144 := by omega
  clear hb
  go_enter Try.func24, Try.ntmps24
  go_wp2_with (go_at_call 31; refine (C.out _).mono ?_; rintro e w2 ⟨p, g, rfl, h2, hp, hg, hf2⟩)
  go_ret
  have hs := hf2.size
  have hl := h2.lt
  exact ⟨w2.heap.size, p, g, rfl, ⟨At.new _ _ _, h2.fr (S := []) ((Fr.refl _ _).alloc _) (by simp) (by simp), by omega, by omega, hn⟩, hs, hp, hg, hf2.alloc _⟩
theorem ptnew_bad (n : Int) (w : World) (hn : n < 0 ∨ ¬ n % 16 = 0 ∨ 262144 < n) :
    Calls Try.prog 24 #[.int .i64 n] w fun r w' => r = .returned (.pointer none) ∧ w = w' := by
  by_cases h0 : n < 0
  · clear hn
    go_enter Try.func24, Try.ntmps24
    go_wp2
    go_ret
    exact ⟨rfl, rfl⟩
  · by_cases h1 : n % 16 = 0
    · have h2 : 262144 < n := by omega
      have h0' : 0 ≤ n := by omega
      have e1 : (n % 16 != 0) = false := by simp; omega
      clear hn h1
      go_enter Try.func24, Try.ntmps24
      go_wp2
      go_ret
      exact ⟨rfl, rfl⟩
    · have h0' : 0 ≤ n := by omega
      have e1 : (n % 16 != 0) = true := by simp; omega
      clear hn h1
      go_enter Try.func24, Try.ntmps24
      go_wp2
      go_ret
      exact ⟨rfl, rfl⟩
def hasP (n : Nat) (f : Nat → Bool) (a : Int) : Bool := inR (a / 16) n && f (a / 16).toNat
theorem pthas_any (w : World) (pp p g n : Nat) (f : Nat → Bool) (h : Pt w pp p g n f) (a : Int) (ha : 0 ≤ a) (ha2 : a ≤ 4294967295) :
    Calls Try.prog 83 #[.pointer (some ⟨pp, 0, none⟩), .int .u32 a] w fun r w' => r = .returned (.bool (hasP n f a)) ∧ w = w' := by
  have c := h.c
  have C := Lib.hid (get_any w p g n f h.2.1 (a / 16))
  have H := Lib.hid h
  unfold hasP
  clear h
  generalize (inR (a / 16) n && f (a / 16).toNat) = b at *
  go_enter Try.func83, Try.ntmps83
  go_wp2_with (first | (go_at_call 86; refine (ptnone_any _ _ _ _ _ _ H.out).mono ?_; rintro e w' ⟨rfl, rfl⟩) | (go_at_call 62; refine (C.out).mono ?_; rintro e w' ⟨rfl, rfl⟩))
  go_ret
  exact ⟨rfl, rfl⟩
theorem pthas_nil (w : World) (a : Int) :
    Calls Try.prog 83 #[.pointer none, .int .u32 a] w fun r w' => r = .returned (.bool false) ∧ w = w' := by
  go_enter Try.func83, Try.ntmps83
  go_wp2_with (go_at_call 86; refine (ptnone_nil _).mono ?_; rintro e w' ⟨rfl, rfl⟩)
  go_ret
  exact ⟨rfl, rfl⟩
/-! ### all -/
def allB : List Bool → Bool
  | [] => true
  | b :: l => b && allB l
theorem allB_drop (l : List Bool) (k : Nat) (h : k < l.length) : allB (l.drop k) = (l[k] && allB (l.drop (k + 1))) := by
  rw [List.drop_eq_getElem_cons h]; rfl
theorem all_any (w : World) (b : Nat) (l : List Bool) (h : At w b 4 (l.map Value.bool).toArray) (hl : l.length ≤ 1000) :
    Calls Try.prog 87 #[.slice (some ⟨b, 0, none⟩) l.length l.length] w fun r w' => r = .returned (.bool (allB l)) ∧ w = w' := by
  have hc := Lib.hid fun k (hk : k < l.length) => show w.cell? ⟨b, k, none⟩ = some (.bool l[k]) by rw [h.cell k]; simp [hk]
  have H0 := Lib.hid (show allB (l.drop 0) = allB l by simp)
  obtain ⟨n, hn⟩ : ∃ n, l.length = n := ⟨_, rfl⟩
  have HN := Lib.hid hn
  rw [hn] at hl ⊢
  clear h hn
  go_enter Try.func87, Try.ntmps87
  go_wp2
  go_loop [7] (fun i => ∃ k : Nat, k ≤ n ∧ i = .int .i64 k ∧ allB (l.drop k) = allB l) (fun i => n - (intOf i).toNat)
  case atStart => exact ⟨0, by omega, rfl, H0.out⟩
  case round =>
    obtain ⟨k, hk, rfl, ha⟩ := hrel
    have HA := Lib.hid ha
    clear ha
    by_cases hkn : k < n
    · have hc1 := hc.out k (by rw [HN.out]; exact hkn)
      have HD := Lib.hid (allB_drop l k (by rw [HN.out]; exact hkn))
      obtain ⟨x, hx⟩ : ∃ x, l[k]'(by rw [HN.out]; exact hkn) = x := ⟨_, rfl⟩
      rw [hx] at hc1 HD
      clear hx
      cases x
      · go_wp2
        go_ret
        refine ⟨ret_bool ?_, rfl⟩
        rw [← HA.out, HD.out]; rfl
      · go_wp2
        go_round
        case rel => exact ⟨k + 1, by omega, by go_num, by rw [← HA.out, HD.out]; simp⟩
        case measure => simp [intOf]; omega
    · have hkn2 : n ≤ k := by omega
      have HE : Hid (allB (l.drop k) = true) := Lib.hid (by rw [List.drop_of_length_le (by rw [HN.out]; exact hkn2)]; rfl)
      go_wp2
      go_ret
      exact ⟨ret_bool (by rw [← HA.out, HE.out]), rfl⟩
theorem gran_any (w : World) (a s : Int) :
    Calls Try.prog 89 #[.agg #[.int .u32 a, .int .u32 s]] w fun r w' => r = .returned (.func (.func 105) #[] #[.pointer (some ⟨w.heap.size, 0, none⟩)]) ∧ w' = w.alloc (.cells #[.int .u32 a, .int .u32 s] 70) := by
  go_enter Try.func89, Try.ntmps89
  go_wp2
  go_ret
  exact ⟨rfl, rfl⟩
end Go.Proofs.Ytilgklpponaoeaa
